/- SeriesOk of the program; RevaluedPay of the program and of the reference. Conditions: facts and points can be read. -/
import Derived.Test.YtondmakaednpdaaIxAt
namespace Go.Proofs.Ytondmakaednpdaa
open Go.RowKit

set_option maxHeartbeats 6400000 in
theorem iSeriesOk (w : World) (A : Option Addr) (n c : Nat) (L : Nat → Po) (h : RdPo w w.heap.size A n L) :
    Calls Try.prog 44 #[.agg #[.slice A n c]] w fun e w' => e = .returned (.bool (seOk n L)) ∧ Below w.heap.size w w' := by
  have hn := h.1
  have hbb : Below w.heap.size w (w.alloc (.cells #[.slice A n c] 29)) := (Below.refl _ _).alloc (Nat.le_refl _) _
  go_enter Try.func44, Try.ntmps44
  go_wp2_with fail
  go_loopw [8] (fun i wr => ∃ k : Nat, k ≤ n ∧ i = .int .i64 k ∧ Hid (allUp (poGood L) k = true) ∧ wr.cell? ⟨w.heap.size, 0, none⟩ = some (.slice A n c) ∧ w.heap.size < wr.heap.size ∧ Below w.heap.size w wr) (fun i _ => n - (intOf i).toNat)
  case atStart => exact ⟨0, Nat.zero_le _, rfl, Lib.hid rfl, by simp [go_sem], by simp, hbb⟩
  case round =>
    obtain ⟨k, hk, rfl, hall, hbox, hzb, hbr⟩ := hrel
    have hs1 := hbr.size
    by_cases hlt : k < n
    · have hhk := (h.below hbr).2
      obtain ⟨b, off, rfl, hbB, h0, h1, h2⟩ := hhk k hlt
      have hb1 : b < wr.heap.size := by omega
      have hne : ¬ b = wr.heap.size := by omega
      have hne2 : ¬ w.heap.size = wr.heap.size := by omega
      clear h
      cases e1 : inB (L k).m 0 3599
      · go_wp2_with fail
        go_quiet ((first | (go_at_call 67; exact quietN (iMonthOk _ _)) | (go_at_call 51; exact quietN (within_any _ _ _ _))))
        go_wp2_with fail
        go_ret
        exact ⟨ret_bool (seOk_no hlt (by simp [poGood, e1])).symm, (by (repeat (first | (with_reducible exact Below.refl _ _) | (with_reducible assumption) | (with_reducible refine Below.drew ?_) | (with_reducible refine below_drewN ?_ _) | ((with_reducible refine Below.setCell ?_ ?_ _); rotate_left; focus (first | (simp; done) | omega | (simp; omega))) | ((with_reducible refine Below.alloc ?_ ?_ _); rotate_left; focus (first | exact Nat.le_refl _ | omega | (simp; done) | (simp; omega))))))⟩
      · cases e2 : inB (L k).n 0 3599
        · go_wp2_with fail
          go_quiet ((first | (go_at_call 67; exact quietN (iMonthOk _ _)) | (go_at_call 51; exact quietN (within_any _ _ _ _))))
          go_wp2_with fail
          go_ret
          exact ⟨ret_bool (seOk_no hlt (by simp [poGood, e1, e2])).symm, (by (repeat (first | (with_reducible exact Below.refl _ _) | (with_reducible assumption) | (with_reducible refine Below.drew ?_) | (with_reducible refine below_drewN ?_ _) | ((with_reducible refine Below.setCell ?_ ?_ _); rotate_left; focus (first | (simp; done) | omega | (simp; omega))) | ((with_reducible refine Below.alloc ?_ ?_ _); rotate_left; focus (first | exact Nat.le_refl _ | omega | (simp; done) | (simp; omega))))))⟩
        · cases e3 : decide ((L k).n < (L k).m)
          · cases e4 : inB (L k).v 1 1000000
            · go_wp2_with fail
              go_quiet ((first | (go_at_call 67; exact quietN (iMonthOk _ _)) | (go_at_call 51; exact quietN (within_any _ _ _ _))))
              go_wp2_with fail
              go_ret
              exact ⟨ret_bool (seOk_no hlt (by simp [poGood, e1, e2, e3, e4])).symm, (by (repeat (first | (with_reducible exact Below.refl _ _) | (with_reducible assumption) | (with_reducible refine Below.drew ?_) | (with_reducible refine below_drewN ?_ _) | ((with_reducible refine Below.setCell ?_ ?_ _); rotate_left; focus (first | (simp; done) | omega | (simp; omega))) | ((with_reducible refine Below.alloc ?_ ?_ _); rotate_left; focus (first | exact Nat.le_refl _ | omega | (simp; done) | (simp; omega))))))⟩
            · skip
              cases k with
              | zero =>
                simp only [Nat.zero_mul, Nat.add_zero] at h0 h1 h2
                go_wp2_with fail
                go_quiet ((first | (go_at_call 67; exact quietN (iMonthOk _ _)) | (go_at_call 51; exact quietN (within_any _ _ _ _))))
                go_wp2_with fail
                go_roundw
                case rel => exact ⟨0 + 1, by omega, by go_num, (by have h := hall.out; exact Lib.hid (by rw [allUp, h]; simp [poGood, e1, e2, e3, e4])), by simp [go_sem, *], by simp; omega, (by (repeat (first | (with_reducible exact Below.refl _ _) | (with_reducible assumption) | (with_reducible refine Below.drew ?_) | (with_reducible refine below_drewN ?_ _) | ((with_reducible refine Below.setCell ?_ ?_ _); rotate_left; focus (first | (simp; done) | omega | (simp; omega))) | ((with_reducible refine Below.alloc ?_ ?_ _); rotate_left; focus (first | exact Nat.le_refl _ | omega | (simp; done) | (simp; omega))))))⟩
                case measure => simp [intOf]; omega
              | succ m =>
                obtain ⟨b', off', he', -, g0, g1, g2⟩ := hhk m (by omega)
                clear hhk
                obtain ⟨rfl, rfl⟩ : b = b' ∧ off = off' := by injection he' with e; injection e with e1 e2 e3; exact ⟨e1, e2⟩
                clear he' g0 g2
                have hw2 : IntKind.i64.wrap (m : Int) = m := IntWalk.i64_in _ ⟨by omega, by omega⟩
                have hw1 : IntKind.i64.wrap ((m : Int) + 1 - 1) = m := by rw [Int.add_sub_cancel]; exact hw2
                cases e5 : decide ((L (m + 1)).n < (L m).n)
                · go_wp2_with fail
                  go_quiet ((first | (go_at_call 67; exact quietN (iMonthOk _ _)) | (go_at_call 51; exact quietN (within_any _ _ _ _))))
                  go_wp2_with fail
                  go_roundw
                  case rel => exact ⟨m + 1 + 1, by omega, by go_num, (by have h := hall.out; exact Lib.hid (by rw [allUp, h]; simp [poGood, e1, e2, e3, e4, e5])), by simp [go_sem, *], by simp; omega, (by (repeat (first | (with_reducible exact Below.refl _ _) | (with_reducible assumption) | (with_reducible refine Below.drew ?_) | (with_reducible refine below_drewN ?_ _) | ((with_reducible refine Below.setCell ?_ ?_ _); rotate_left; focus (first | (simp; done) | omega | (simp; omega))) | ((with_reducible refine Below.alloc ?_ ?_ _); rotate_left; focus (first | exact Nat.le_refl _ | omega | (simp; done) | (simp; omega))))))⟩
                  case measure => simp [intOf]; omega
                · go_wp2_with fail
                  go_quiet ((first | (go_at_call 67; exact quietN (iMonthOk _ _)) | (go_at_call 51; exact quietN (within_any _ _ _ _))))
                  go_wp2_with fail
                  go_ret
                  exact ⟨ret_bool (seOk_no hlt (by simp [poGood, e1, e2, e3, e4, e5])).symm, (by (repeat (first | (with_reducible exact Below.refl _ _) | (with_reducible assumption) | (with_reducible refine Below.drew ?_) | (with_reducible refine below_drewN ?_ _) | ((with_reducible refine Below.setCell ?_ ?_ _); rotate_left; focus (first | (simp; done) | omega | (simp; omega))) | ((with_reducible refine Below.alloc ?_ ?_ _); rotate_left; focus (first | exact Nat.le_refl _ | omega | (simp; done) | (simp; omega))))))⟩
          · go_wp2_with fail
            go_quiet ((first | (go_at_call 67; exact quietN (iMonthOk _ _)) | (go_at_call 51; exact quietN (within_any _ _ _ _))))
            go_wp2_with fail
            go_ret
            exact ⟨ret_bool (seOk_no hlt (by simp [poGood, e1, e2, e3])).symm, (by (repeat (first | (with_reducible exact Below.refl _ _) | (with_reducible assumption) | (with_reducible refine Below.drew ?_) | (with_reducible refine below_drewN ?_ _) | ((with_reducible refine Below.setCell ?_ ?_ _); rotate_left; focus (first | (simp; done) | omega | (simp; omega))) | ((with_reducible refine Below.alloc ?_ ?_ _); rotate_left; focus (first | exact Nat.le_refl _ | omega | (simp; done) | (simp; omega))))))⟩
    · obtain rfl : k = n := by omega
      have ha := hall.out
      have hv : seOk k L = decide ((k : Int) ≤ 200) := by rw [seOk, ha, Bool.true_and]; apply decide_eq_decide.2; omega
      go_wp2_with fail
      go_ret
      exact ⟨ret_bool hv.symm, hbr⟩

/-- What one month adds to the revalued pay. -/
def rvOf : Option Int → Option Int → Option Int → Int
  | some v, some a, some e => if 0 < v then (v * e).tdiv a else 0
  | _, _, _ => 0
def rvOne (n : Nat) (L : Nat → Fa) (q : Nat) (P : Nat → Po) (to known m : Int) : Int := rvOf (valFrom L 1 m known n) (indexL q P m known) (indexL q P (to - 1) known)
def rvSum (n : Nat) (L : Nat → Fa) (q : Nat) (P : Nat → Po) (fm to known : Int) : Nat → Int
  | 0 => 0
  | k + 1 => rvSum n L q P fm to known k + rvOne n L q P to known (fm + (k : Int))
def revalL (n : Nat) (L : Nat → Fa) (q : Nat) (P : Nat → Po) (fm to known : Int) : Int := if stOk n L && (seOk q P && (endB fm && endB to)) then rvSum n L q P fm to known (to - fm).toNat else 0
theorem rvOf_no (x y : Option Int) : rvOf x y none = 0 := by cases x <;> cases y <;> rfl
theorem tdiv_bd {x a b : Int} (h0 : 0 ≤ x) (hb : x ≤ b) (ha : 1 ≤ a) : 0 ≤ x.tdiv a ∧ x.tdiv a ≤ b := by
  refine ⟨Int.tdiv_nonneg h0 (by omega), ?_⟩
  have h := Int.tdiv_le_self a h0
  omega
theorem rvOf_bd {n q : Nat} {L : Nat → Fa} {P : Nat → Po} (h : stOk n L = true) (h2 : seOk q P = true) (to known m : Int) : 0 ≤ rvOne n L q P to known m ∧ rvOne n L q P to known m ≤ 1000000000000000 := by
  rw [rvOne]
  cases e1 : valFrom L 1 m known n with
  | none => simp [rvOf]
  | some v =>
    cases e2 : indexL q P m known with
    | none => simp [rvOf]
    | some a =>
      cases e3 : indexL q P (to - 1) known with
      | none => simp [rvOf]
      | some e =>
        obtain ⟨j, hj, rfl⟩ := valFrom_mem e1
        obtain ⟨i, hi, rfl⟩ := indexL_mem e2
        obtain ⟨r, hr, rfl⟩ := indexL_mem e3
        have b1 := stOk_val h hj
        have b2 := seOk_val h2 hi
        have b3 := seOk_val h2 hr
        simp only [rvOf]
        split
        · have hm := mul_bd (show 0 ≤ (L j).v by omega) b1.2 (show 0 ≤ (P r).v by omega) b3.2
          exact tdiv_bd hm.1 (by omega) b2.1
        · omega
theorem rvSum_bd {n q : Nat} {L : Nat → Fa} {P : Nat → Po} (h : stOk n L = true) (h2 : seOk q P = true) (fm to known : Int) : ∀ k : Nat, 0 ≤ rvSum n L q P fm to known k ∧ rvSum n L q P fm to known k ≤ 1000000000000000 * (k : Int)
  | 0 => by simp [rvSum]
  | k + 1 => by
    have ih := rvSum_bd h h2 fm to known k
    have h1 := rvOf_bd h h2 to known (fm + (k : Int))
    simp only [rvSum]
    omega
theorem rvSum_no {n q : Nat} {L : Nat → Fa} {P : Nat → Po} {fm to known : Int} (h : indexL q P (to - 1) known = none) : ∀ k : Nat, rvSum n L q P fm to known k = 0
  | 0 => rfl
  | k + 1 => by rw [rvSum, rvSum_no h k, rvOne, h, rvOf_no]; rfl

set_option maxHeartbeats 800000 in
theorem sRange (w : World) (A : Option Addr) (n c : Nat) (L : Nat → Fa) (a b : Int) (h : RdFa w w.heap.size A n L) :
    Calls Try.prog 49 #[.agg #[.slice A n c], .int .i64 a, .int .i64 b] w fun e w' => e = .returned (.bool (stOk n L && (endB a && endB b))) ∧ Below w.heap.size w w' := by
  have hbb : Below w.heap.size w (w.alloc (.cells #[.slice A n c] 26)) := (Below.refl _ _).alloc (Nat.le_refl _) _
  cases hok : stOk n L
  · go_enter Try.func49, Try.ntmps49
    go_wp2_with fail
    refine (sStoreOk _ A n c L ((h.below hbb).more (by simp))).mono ?_
    rintro e w1 ⟨rfl, hb1⟩
    rw [hok]
    have hB1 := hbb.trans (hb1.mono (by simp))
    clear hb1
    go_wp2_with fail
    go_ret
    exact ⟨ret_bool (by simp), hB1⟩
  · cases ea : endB a
    · go_enter Try.func49, Try.ntmps49
      go_wp2_with fail
      refine (sStoreOk _ A n c L ((h.below hbb).more (by simp))).mono ?_
      rintro e w1 ⟨rfl, hb1⟩
      rw [hok]
      have hB1 := hbb.trans (hb1.mono (by simp))
      clear hb1
      go_wp2_with (go_at_call 41; refine (l04End_any _ _).mono ?_; rintro e w' ⟨rfl, rfl⟩)
      go_ret
      exact ⟨ret_bool (by simp), hB1⟩
    · go_enter Try.func49, Try.ntmps49
      go_wp2_with fail
      refine (sStoreOk _ A n c L ((h.below hbb).more (by simp))).mono ?_
      rintro e w1 ⟨rfl, hb1⟩
      rw [hok]
      have hB1 := hbb.trans (hb1.mono (by simp))
      clear hb1
      go_wp2_with (go_at_call 41; refine (l04End_any _ _).mono ?_; rintro e w' ⟨rfl, rfl⟩)
      go_ret
      exact ⟨ret_bool (by simp), hB1⟩

set_option maxRecDepth 4000 in
set_option maxHeartbeats 6400000 in
theorem iRevaluedPay (w : World) (A : Option Addr) (n c : Nat) (L : Nat → Fa) (A2 : Option Addr) (q c2 : Nat) (P : Nat → Po) (fm to known : Int) (h : RdFa w w.heap.size A n L) (h2 : RdPo w w.heap.size A2 q P) :
    Calls Try.prog 20 #[.agg #[.slice A n c], .agg #[.slice A2 q c2], .int .i64 fm, .int .i64 to, .int .i64 known] w fun e w' => e = .returned (.int .i64 (revalL n L q P fm to known)) ∧ Below w.heap.size w w' := by
  have hn := h.1
  have hn2 := h2.1
  have hbb : Below w.heap.size w ((w.alloc (.cells #[.slice A n c] 26)).alloc (.cells #[.slice A2 q c2] 29)) := ((Below.refl _ _).alloc (Nat.le_refl _) _).alloc (by simp) _
  cases hok : stOk n L
  · have hz : revalL n L q P fm to known = 0 := by simp [revalL, hok]
    rw [hz]
    go_enter Try.func20, Try.ntmps20
    go_wp2_with fail
    refine (iStoreOk _ A n c L ((h.below hbb).more (by simp; omega))).mono ?_
    rintro e w1 ⟨rfl, hb1⟩
    obtain ⟨hc1, -⟩ := keepc hb1
    have c0 : w1.cell? ⟨w.heap.size, 0, none⟩ = some (.slice A n c) := by rw [hc1 _ _ (by simp <;> omega)]; simp [go_sem]
    have c1 : w1.cell? ⟨w.heap.size + 1, 0, none⟩ = some (.slice A2 q c2) := by rw [hc1 _ _ (by simp <;> omega)]; simp [go_sem]
    have hz1 : w.heap.size + 1 < w1.heap.size := by have := hb1.size; simp at this; omega
    have hB1 := hbb.trans (hb1.mono (by simp; omega))
    clear hc1 hb1
    rw [hok]
    go_wp2_with fail
    go_ret
    exact ⟨rfl, hB1⟩
  · cases hse : seOk q P
    · have hz : revalL n L q P fm to known = 0 := by simp [revalL, hse]
      rw [hz]
      go_enter Try.func20, Try.ntmps20
      go_wp2_with fail
      refine (iStoreOk _ A n c L ((h.below hbb).more (by simp; omega))).mono ?_
      rintro e w1 ⟨rfl, hb1⟩
      obtain ⟨hc1, -⟩ := keepc hb1
      have c0 : w1.cell? ⟨w.heap.size, 0, none⟩ = some (.slice A n c) := by rw [hc1 _ _ (by simp <;> omega)]; simp [go_sem]
      have c1 : w1.cell? ⟨w.heap.size + 1, 0, none⟩ = some (.slice A2 q c2) := by rw [hc1 _ _ (by simp <;> omega)]; simp [go_sem]
      have hz1 : w.heap.size + 1 < w1.heap.size := by have := hb1.size; simp at this; omega
      have hB1 := hbb.trans (hb1.mono (by simp; omega))
      clear hc1 hb1
      rw [hok]
      go_wp2_with fail
      refine (iSeriesOk _ A2 q c2 P ((h2.below hB1).more hB1.size)).mono ?_
      rintro e w2 ⟨rfl, hb2⟩
      obtain ⟨hc2, -⟩ := keepc hb2
      replace c0 : w2.cell? ⟨w.heap.size, 0, none⟩ = some (.slice A n c) := by rw [hc2 _ _ (by omega)]; exact c0
      replace c1 : w2.cell? ⟨w.heap.size + 1, 0, none⟩ = some (.slice A2 q c2) := by rw [hc2 _ _ (by omega)]; exact c1
      have hs2 := hb2.size
      have hz2 : w.heap.size + 1 < w2.heap.size := by omega
      have hB2 := hB1.trans (hb2.mono (by omega))
      clear hc2 hb2
      rw [hse]
      go_wp2_with fail
      go_ret
      exact ⟨rfl, hB2⟩
    · cases ea : endB fm
      · have hz : revalL n L q P fm to known = 0 := by simp [revalL, ea]
        rw [hz]
        go_enter Try.func20, Try.ntmps20
        go_wp2_with fail
        refine (iStoreOk _ A n c L ((h.below hbb).more (by simp; omega))).mono ?_
        rintro e w1 ⟨rfl, hb1⟩
        obtain ⟨hc1, -⟩ := keepc hb1
        have c0 : w1.cell? ⟨w.heap.size, 0, none⟩ = some (.slice A n c) := by rw [hc1 _ _ (by simp <;> omega)]; simp [go_sem]
        have c1 : w1.cell? ⟨w.heap.size + 1, 0, none⟩ = some (.slice A2 q c2) := by rw [hc1 _ _ (by simp <;> omega)]; simp [go_sem]
        have hz1 : w.heap.size + 1 < w1.heap.size := by have := hb1.size; simp at this; omega
        have hB1 := hbb.trans (hb1.mono (by simp; omega))
        clear hc1 hb1
        rw [hok]
        go_wp2_with fail
        refine (iSeriesOk _ A2 q c2 P ((h2.below hB1).more hB1.size)).mono ?_
        rintro e w2 ⟨rfl, hb2⟩
        obtain ⟨hc2, -⟩ := keepc hb2
        replace c0 : w2.cell? ⟨w.heap.size, 0, none⟩ = some (.slice A n c) := by rw [hc2 _ _ (by omega)]; exact c0
        replace c1 : w2.cell? ⟨w.heap.size + 1, 0, none⟩ = some (.slice A2 q c2) := by rw [hc2 _ _ (by omega)]; exact c1
        have hs2 := hb2.size
        have hz2 : w.heap.size + 1 < w2.heap.size := by omega
        have hB2 := hB1.trans (hb2.mono (by omega))
        clear hc2 hb2
        rw [hse]
        go_wp2_with (go_at_call 37; refine (isEnd_any _ _).mono ?_; rintro e w' ⟨rfl, rfl⟩)
        go_ret
        exact ⟨rfl, hB2⟩
      · cases eb : endB to
        · have hz : revalL n L q P fm to known = 0 := by simp [revalL, eb]
          rw [hz]
          go_enter Try.func20, Try.ntmps20
          go_wp2_with fail
          refine (iStoreOk _ A n c L ((h.below hbb).more (by simp; omega))).mono ?_
          rintro e w1 ⟨rfl, hb1⟩
          obtain ⟨hc1, -⟩ := keepc hb1
          have c0 : w1.cell? ⟨w.heap.size, 0, none⟩ = some (.slice A n c) := by rw [hc1 _ _ (by simp <;> omega)]; simp [go_sem]
          have c1 : w1.cell? ⟨w.heap.size + 1, 0, none⟩ = some (.slice A2 q c2) := by rw [hc1 _ _ (by simp <;> omega)]; simp [go_sem]
          have hz1 : w.heap.size + 1 < w1.heap.size := by have := hb1.size; simp at this; omega
          have hB1 := hbb.trans (hb1.mono (by simp; omega))
          clear hc1 hb1
          rw [hok]
          go_wp2_with fail
          refine (iSeriesOk _ A2 q c2 P ((h2.below hB1).more hB1.size)).mono ?_
          rintro e w2 ⟨rfl, hb2⟩
          obtain ⟨hc2, -⟩ := keepc hb2
          replace c0 : w2.cell? ⟨w.heap.size, 0, none⟩ = some (.slice A n c) := by rw [hc2 _ _ (by omega)]; exact c0
          replace c1 : w2.cell? ⟨w.heap.size + 1, 0, none⟩ = some (.slice A2 q c2) := by rw [hc2 _ _ (by omega)]; exact c1
          have hs2 := hb2.size
          have hz2 : w.heap.size + 1 < w2.heap.size := by omega
          have hB2 := hB1.trans (hb2.mono (by omega))
          clear hc2 hb2
          rw [hse]
          go_wp2_with (go_at_call 37; refine (isEnd_any _ _).mono ?_; rintro e w' ⟨rfl, rfl⟩)
          go_ret
          exact ⟨rfl, hB2⟩
        · have hz : revalL n L q P fm to known = rvSum n L q P fm to known (to - fm).toNat := by simp [revalL, hok, hse, ea, eb]
          rw [hz]
          clear hz
          have hm1 := inB_iff.1 ea
          have hm2 := inB_iff.1 eb
          have hwt : IntKind.i64.wrap (to - 1) = to - 1 := IntWalk.i64_in _ ⟨by omega, by omega⟩
          go_enter Try.func20, Try.ntmps20
          go_wp2_with fail
          refine (iStoreOk _ A n c L ((h.below hbb).more (by simp; omega))).mono ?_
          rintro e w1 ⟨rfl, hb1⟩
          obtain ⟨hc1, -⟩ := keepc hb1
          have c0 : w1.cell? ⟨w.heap.size, 0, none⟩ = some (.slice A n c) := by rw [hc1 _ _ (by simp <;> omega)]; simp [go_sem]
          have c1 : w1.cell? ⟨w.heap.size + 1, 0, none⟩ = some (.slice A2 q c2) := by rw [hc1 _ _ (by simp <;> omega)]; simp [go_sem]
          have hz1 : w.heap.size + 1 < w1.heap.size := by have := hb1.size; simp at this; omega
          have hB1 := hbb.trans (hb1.mono (by simp; omega))
          clear hc1 hb1
          rw [hok]
          go_wp2_with fail
          refine (iSeriesOk _ A2 q c2 P ((h2.below hB1).more hB1.size)).mono ?_
          rintro e w2 ⟨rfl, hb2⟩
          obtain ⟨hc2, -⟩ := keepc hb2
          replace c0 : w2.cell? ⟨w.heap.size, 0, none⟩ = some (.slice A n c) := by rw [hc2 _ _ (by omega)]; exact c0
          replace c1 : w2.cell? ⟨w.heap.size + 1, 0, none⟩ = some (.slice A2 q c2) := by rw [hc2 _ _ (by omega)]; exact c1
          have hs2 := hb2.size
          have hz2 : w.heap.size + 1 < w2.heap.size := by omega
          have hB2 := hB1.trans (hb2.mono (by omega))
          clear hc2 hb2
          rw [hse]
          go_wp2_with (go_at_call 37; refine (isEnd_any _ _).mono ?_; rintro e w' ⟨rfl, rfl⟩)
          go_loopw [11, 12] (fun s i wr => ∃ k : Nat, k ≤ (to - fm).toNat ∧ i = .int .i64 (fm + k) ∧ s = .int .i64 (rvSum n L q P fm to known k) ∧ wr.cell? ⟨w.heap.size, 0, none⟩ = some (.slice A n c) ∧ wr.cell? ⟨w.heap.size + 1, 0, none⟩ = some (.slice A2 q c2) ∧ w.heap.size + 1 < wr.heap.size ∧ Below w.heap.size w wr) (fun _ i _ => (to - intOf i).toNat)
          case atStart => exact ⟨0, Nat.zero_le _, by simp, rfl, c0, c1, hz2, hB2⟩
          case round =>
            obtain ⟨k, hk, rfl, rfl, c0, c1, hzr, hBr⟩ := hrel
            have hs1 := hBr.size
            by_cases hlt : k < (to - fm).toNat
            · have hlt2 : fm + (k : Int) < to := by omega
              have hbd1 := rvSum_bd hok hse fm to known k
              have hone := rvOf_bd hok hse to known (fm + (k : Int))
              have hst : rvSum n L q P fm to known (k + 1) = rvSum n L q P fm to known k + rvOne n L q P to known (fm + (k : Int)) := rfl
              rw [rvOne] at hst hone
              have hwk : IntKind.i64.wrap (fm + (k : Int) + 1) = fm + ((k + 1 : Nat) : Int) := by rw [IntWalk.i64_in _ ⟨by omega, by omega⟩]; omega
              obtain ⟨S0, hS0⟩ : ∃ S0, S0 = rvSum n L q P fm to known k := ⟨_, rfl⟩
              rw [← hS0] at hst hbd1
              obtain ⟨S1, hS1⟩ : ∃ S1, S1 = rvSum n L q P fm to known (k + 1) := ⟨_, rfl⟩
              rw [← hS1] at hst
              obtain ⟨mk, hmk⟩ : ∃ mk : Int, mk = fm + (k : Int) := ⟨_, rfl⟩
              rw [← hmk] at hst hone hlt2 hwk
              have HMK := Lib.hid hmk
              rw [← hS0, ← hmk]
              have HS1 := Lib.hid hS1
              clear hS1 hS0
              obtain ⟨R1, hR1⟩ : ∃ R1, R1 = valFrom L 1 mk known n := ⟨_, rfl⟩
              obtain ⟨R2, hR2⟩ : ∃ R2, R2 = indexL q P mk known := ⟨_, rfl⟩
              have mv : ∀ v, R1 = some v → -1000000000 ≤ v ∧ v ≤ 1000000000 := fun v hv => by obtain ⟨j, hj, rfl⟩ := valFrom_mem (hR1.symm.trans hv); exact stOk_val hok hj
              have mi : ∀ v, R2 = some v → 1 ≤ v ∧ v ≤ 1000000 := fun v hv => by obtain ⟨j, hj, rfl⟩ := indexL_mem (hR2.symm.trans hv); exact seOk_val hse hj
              have V1 := iValueAt wr A n c L 1 mk known ((h.below hBr).more hs1)
              rw [← hR1] at V1
              rw [← hR1, ← hR2] at hst hone
              have V2 := fun (v : World) (hv : RdPo v v.heap.size A2 q P) => iIndexAt v A2 q c2 P mk known hv
              rw [← hR2] at V2
              clear hR1 hR2
              obtain ⟨R3, hR3⟩ : ∃ R3, R3 = indexL q P (to - 1) known := ⟨_, rfl⟩
              rw [← hR3] at hst hone
              have me : ∀ v, R3 = some v → 1 ≤ v ∧ v ≤ 1000000 := fun v hv => by obtain ⟨j, hj, rfl⟩ := indexL_mem (hR3.symm.trans hv); exact seOk_val hse hj
              have V3 := fun (v : World) (hv : RdPo v v.heap.size A2 q P) => iIndexAt v A2 q c2 P (to - 1) known hv
              rw [← hR3] at V3
              clear hmk hR3
              cases R1 with
              | none =>
                have HST := Lib.hid (show S1 = S0 by rw [hst]; simp [rvOf])
                clear hst hone mv mi me
                go_wp2_with fail
                refine (V1).mono ?_
                rintro e w5 ⟨rfl, hb5⟩
                obtain ⟨hc5, -⟩ := keepc hb5
                replace c0 : w5.cell? ⟨w.heap.size, 0, none⟩ = some (.slice A n c) := by rw [hc5 _ _ (by omega)]; exact c0
                replace c1 : w5.cell? ⟨w.heap.size + 1, 0, none⟩ = some (.slice A2 q c2) := by rw [hc5 _ _ (by omega)]; exact c1
                have hs5 := hb5.size
                have hz5 : w.heap.size + 1 < w5.heap.size := by omega
                have hB5 := hBr.trans (hb5.mono (by omega))
                clear hc5 hb5
                clear V1
                go_wp2_with fail
                refine (V2 w5 ((h2.below hB5).more hB5.size)).mono ?_
                rintro e w6 ⟨rfl, hb6⟩
                obtain ⟨hc6, -⟩ := keepc hb6
                replace c0 : w6.cell? ⟨w.heap.size, 0, none⟩ = some (.slice A n c) := by rw [hc6 _ _ (by omega)]; exact c0
                replace c1 : w6.cell? ⟨w.heap.size + 1, 0, none⟩ = some (.slice A2 q c2) := by rw [hc6 _ _ (by omega)]; exact c1
                have hs6 := hb6.size
                have hz6 : w.heap.size + 1 < w6.heap.size := by omega
                have hB6 := hB5.trans (hb6.mono (by omega))
                clear hc6 hb6
                clear V2
                go_wp2_with fail
                refine (V3 w6 ((h2.below hB6).more hB6.size)).mono ?_
                rintro e w7 ⟨rfl, hb7⟩
                obtain ⟨hc7, -⟩ := keepc hb7
                replace c0 : w7.cell? ⟨w.heap.size, 0, none⟩ = some (.slice A n c) := by rw [hc7 _ _ (by omega)]; exact c0
                replace c1 : w7.cell? ⟨w.heap.size + 1, 0, none⟩ = some (.slice A2 q c2) := by rw [hc7 _ _ (by omega)]; exact c1
                have hs7 := hb7.size
                have hz7 : w.heap.size + 1 < w7.heap.size := by omega
                have hB7 := hB6.trans (hb7.mono (by omega))
                clear hc7 hb7
                clear V3
                go_wp2_with fail
                go_roundw
                case rel => exact ⟨k + 1, by omega, by simp, by rw [← HS1.out, HST.out], c0, c1, hz7, hB7⟩
                case measure => have := HMK.out; simp only [intOf]; omega
              | some v =>
                cases R2 with
                | none =>
                  have HST := Lib.hid (show S1 = S0 by rw [hst]; simp [rvOf])
                  clear hst hone mv mi me
                  go_wp2_with fail
                  refine (V1).mono ?_
                  rintro e w5 ⟨rfl, hb5⟩
                  obtain ⟨hc5, -⟩ := keepc hb5
                  replace c0 : w5.cell? ⟨w.heap.size, 0, none⟩ = some (.slice A n c) := by rw [hc5 _ _ (by omega)]; exact c0
                  replace c1 : w5.cell? ⟨w.heap.size + 1, 0, none⟩ = some (.slice A2 q c2) := by rw [hc5 _ _ (by omega)]; exact c1
                  have hs5 := hb5.size
                  have hz5 : w.heap.size + 1 < w5.heap.size := by omega
                  have hB5 := hBr.trans (hb5.mono (by omega))
                  clear hc5 hb5
                  clear V1
                  go_wp2_with fail
                  refine (V2 w5 ((h2.below hB5).more hB5.size)).mono ?_
                  rintro e w6 ⟨rfl, hb6⟩
                  obtain ⟨hc6, -⟩ := keepc hb6
                  replace c0 : w6.cell? ⟨w.heap.size, 0, none⟩ = some (.slice A n c) := by rw [hc6 _ _ (by omega)]; exact c0
                  replace c1 : w6.cell? ⟨w.heap.size + 1, 0, none⟩ = some (.slice A2 q c2) := by rw [hc6 _ _ (by omega)]; exact c1
                  have hs6 := hb6.size
                  have hz6 : w.heap.size + 1 < w6.heap.size := by omega
                  have hB6 := hB5.trans (hb6.mono (by omega))
                  clear hc6 hb6
                  clear V2
                  go_wp2_with fail
                  refine (V3 w6 ((h2.below hB6).more hB6.size)).mono ?_
                  rintro e w7 ⟨rfl, hb7⟩
                  obtain ⟨hc7, -⟩ := keepc hb7
                  replace c0 : w7.cell? ⟨w.heap.size, 0, none⟩ = some (.slice A n c) := by rw [hc7 _ _ (by omega)]; exact c0
                  replace c1 : w7.cell? ⟨w.heap.size + 1, 0, none⟩ = some (.slice A2 q c2) := by rw [hc7 _ _ (by omega)]; exact c1
                  have hs7 := hb7.size
                  have hz7 : w.heap.size + 1 < w7.heap.size := by omega
                  have hB7 := hB6.trans (hb7.mono (by omega))
                  clear hc7 hb7
                  clear V3
                  go_wp2_with fail
                  go_roundw
                  case rel => exact ⟨k + 1, by omega, by simp, by rw [← HS1.out, HST.out], c0, c1, hz7, hB7⟩
                  case measure => have := HMK.out; simp only [intOf]; omega
                | some a =>
                  cases R3 with
                  | none =>
                    have HST := Lib.hid (show S1 = S0 by rw [hst]; simp [rvOf])
                    clear hst hone mv mi me
                    go_wp2_with fail
                    refine (V1).mono ?_
                    rintro e w5 ⟨rfl, hb5⟩
                    obtain ⟨hc5, -⟩ := keepc hb5
                    replace c0 : w5.cell? ⟨w.heap.size, 0, none⟩ = some (.slice A n c) := by rw [hc5 _ _ (by omega)]; exact c0
                    replace c1 : w5.cell? ⟨w.heap.size + 1, 0, none⟩ = some (.slice A2 q c2) := by rw [hc5 _ _ (by omega)]; exact c1
                    have hs5 := hb5.size
                    have hz5 : w.heap.size + 1 < w5.heap.size := by omega
                    have hB5 := hBr.trans (hb5.mono (by omega))
                    clear hc5 hb5
                    clear V1
                    go_wp2_with fail
                    refine (V2 w5 ((h2.below hB5).more hB5.size)).mono ?_
                    rintro e w6 ⟨rfl, hb6⟩
                    obtain ⟨hc6, -⟩ := keepc hb6
                    replace c0 : w6.cell? ⟨w.heap.size, 0, none⟩ = some (.slice A n c) := by rw [hc6 _ _ (by omega)]; exact c0
                    replace c1 : w6.cell? ⟨w.heap.size + 1, 0, none⟩ = some (.slice A2 q c2) := by rw [hc6 _ _ (by omega)]; exact c1
                    have hs6 := hb6.size
                    have hz6 : w.heap.size + 1 < w6.heap.size := by omega
                    have hB6 := hB5.trans (hb6.mono (by omega))
                    clear hc6 hb6
                    clear V2
                    go_wp2_with fail
                    refine (V3 w6 ((h2.below hB6).more hB6.size)).mono ?_
                    rintro e w7 ⟨rfl, hb7⟩
                    obtain ⟨hc7, -⟩ := keepc hb7
                    replace c0 : w7.cell? ⟨w.heap.size, 0, none⟩ = some (.slice A n c) := by rw [hc7 _ _ (by omega)]; exact c0
                    replace c1 : w7.cell? ⟨w.heap.size + 1, 0, none⟩ = some (.slice A2 q c2) := by rw [hc7 _ _ (by omega)]; exact c1
                    have hs7 := hb7.size
                    have hz7 : w.heap.size + 1 < w7.heap.size := by omega
                    have hB7 := hB6.trans (hb7.mono (by omega))
                    clear hc7 hb7
                    clear V3
                    go_wp2_with fail
                    go_roundw
                    case rel => exact ⟨k + 1, by omega, by simp, by rw [← HS1.out, HST.out], c0, c1, hz7, hB7⟩
                    case measure => have := HMK.out; simp only [intOf]; omega
                  | some e3 =>
                    by_cases hv : 0 < v
                    · have b1 := mv _ rfl
                      have b2 := mi _ rfl
                      have b3 := me _ rfl
                      have hmul := mul_bd (show 0 ≤ v by omega) b1.2 (show 0 ≤ e3 by omega) b3.2
                      have htd := tdiv_bd hmul.1 (show v * e3 ≤ 1000000000000000 by omega) b2.1
                      simp only [rvOf, if_pos hv] at hst hone
                      have hv2 : (0 : Int) < v := hv
                      have m1 : IntKind.i64.wrap (v * e3) = v * e3 := IntWalk.i64_in _ ⟨by omega, by omega⟩
                      have m2 : IntKind.i64.wrap ((v * e3).tdiv a) = (v * e3).tdiv a := IntWalk.i64_in _ ⟨by omega, by omega⟩
                      have m3 : IntKind.i64.wrap (S0 + (v * e3).tdiv a) = S0 + (v * e3).tdiv a := IntWalk.i64_in _ ⟨by omega, by omega⟩
                      have ha0 : ¬ a = 0 := by omega
                      have HST := Lib.hid hst
                      clear hst hone mv mi me hmul htd
                      go_wp2_with fail
                      refine (V1).mono ?_
                      rintro e w5 ⟨rfl, hb5⟩
                      obtain ⟨hc5, -⟩ := keepc hb5
                      replace c0 : w5.cell? ⟨w.heap.size, 0, none⟩ = some (.slice A n c) := by rw [hc5 _ _ (by omega)]; exact c0
                      replace c1 : w5.cell? ⟨w.heap.size + 1, 0, none⟩ = some (.slice A2 q c2) := by rw [hc5 _ _ (by omega)]; exact c1
                      have hs5 := hb5.size
                      have hz5 : w.heap.size + 1 < w5.heap.size := by omega
                      have hB5 := hBr.trans (hb5.mono (by omega))
                      clear hc5 hb5
                      clear V1
                      go_wp2_with fail
                      refine (V2 w5 ((h2.below hB5).more hB5.size)).mono ?_
                      rintro e w6 ⟨rfl, hb6⟩
                      obtain ⟨hc6, -⟩ := keepc hb6
                      replace c0 : w6.cell? ⟨w.heap.size, 0, none⟩ = some (.slice A n c) := by rw [hc6 _ _ (by omega)]; exact c0
                      replace c1 : w6.cell? ⟨w.heap.size + 1, 0, none⟩ = some (.slice A2 q c2) := by rw [hc6 _ _ (by omega)]; exact c1
                      have hs6 := hb6.size
                      have hz6 : w.heap.size + 1 < w6.heap.size := by omega
                      have hB6 := hB5.trans (hb6.mono (by omega))
                      clear hc6 hb6
                      clear V2
                      go_wp2_with fail
                      refine (V3 w6 ((h2.below hB6).more hB6.size)).mono ?_
                      rintro e w7 ⟨rfl, hb7⟩
                      obtain ⟨hc7, -⟩ := keepc hb7
                      replace c0 : w7.cell? ⟨w.heap.size, 0, none⟩ = some (.slice A n c) := by rw [hc7 _ _ (by omega)]; exact c0
                      replace c1 : w7.cell? ⟨w.heap.size + 1, 0, none⟩ = some (.slice A2 q c2) := by rw [hc7 _ _ (by omega)]; exact c1
                      have hs7 := hb7.size
                      have hz7 : w.heap.size + 1 < w7.heap.size := by omega
                      have hB7 := hB6.trans (hb7.mono (by omega))
                      clear hc7 hb7
                      clear V3
                      go_wp2_with fail
                      go_roundw
                      case rel => exact ⟨k + 1, by omega, by simp, by rw [← HS1.out, HST.out], c0, c1, hz7, hB7⟩
                      case measure => have := HMK.out; simp only [intOf]; omega
                    · have hv2 : ¬ (0 : Int) < v := hv
                      have HST := Lib.hid (show S1 = S0 by rw [hst]; simp [rvOf, if_neg hv])
                      clear hst hone mv mi me
                      go_wp2_with fail
                      refine (V1).mono ?_
                      rintro e w5 ⟨rfl, hb5⟩
                      obtain ⟨hc5, -⟩ := keepc hb5
                      replace c0 : w5.cell? ⟨w.heap.size, 0, none⟩ = some (.slice A n c) := by rw [hc5 _ _ (by omega)]; exact c0
                      replace c1 : w5.cell? ⟨w.heap.size + 1, 0, none⟩ = some (.slice A2 q c2) := by rw [hc5 _ _ (by omega)]; exact c1
                      have hs5 := hb5.size
                      have hz5 : w.heap.size + 1 < w5.heap.size := by omega
                      have hB5 := hBr.trans (hb5.mono (by omega))
                      clear hc5 hb5
                      clear V1
                      go_wp2_with fail
                      refine (V2 w5 ((h2.below hB5).more hB5.size)).mono ?_
                      rintro e w6 ⟨rfl, hb6⟩
                      obtain ⟨hc6, -⟩ := keepc hb6
                      replace c0 : w6.cell? ⟨w.heap.size, 0, none⟩ = some (.slice A n c) := by rw [hc6 _ _ (by omega)]; exact c0
                      replace c1 : w6.cell? ⟨w.heap.size + 1, 0, none⟩ = some (.slice A2 q c2) := by rw [hc6 _ _ (by omega)]; exact c1
                      have hs6 := hb6.size
                      have hz6 : w.heap.size + 1 < w6.heap.size := by omega
                      have hB6 := hB5.trans (hb6.mono (by omega))
                      clear hc6 hb6
                      clear V2
                      go_wp2_with fail
                      refine (V3 w6 ((h2.below hB6).more hB6.size)).mono ?_
                      rintro e w7 ⟨rfl, hb7⟩
                      obtain ⟨hc7, -⟩ := keepc hb7
                      replace c0 : w7.cell? ⟨w.heap.size, 0, none⟩ = some (.slice A n c) := by rw [hc7 _ _ (by omega)]; exact c0
                      replace c1 : w7.cell? ⟨w.heap.size + 1, 0, none⟩ = some (.slice A2 q c2) := by rw [hc7 _ _ (by omega)]; exact c1
                      have hs7 := hb7.size
                      have hz7 : w.heap.size + 1 < w7.heap.size := by omega
                      have hB7 := hB6.trans (hb7.mono (by omega))
                      clear hc7 hb7
                      clear V3
                      go_wp2_with fail
                      go_roundw
                      case rel => exact ⟨k + 1, by omega, by simp, by rw [← HS1.out, HST.out], c0, c1, hz7, hB7⟩
                      case measure => have := HMK.out; simp only [intOf]; omega
            · obtain rfl : k = (to - fm).toNat := by omega
              have hge : ¬ fm + (((to - fm).toNat : Nat) : Int) < to := by omega
              obtain ⟨Z, hZ⟩ : ∃ Z : Int, Z = fm + (((to - fm).toNat : Nat) : Int) := ⟨_, rfl⟩
              rw [← hZ] at hge ⊢
              go_wp2_with fail
              go_ret
              exact ⟨rfl, hBr⟩

set_option maxRecDepth 4000 in
set_option maxHeartbeats 6400000 in
theorem sRevaluedPay (w : World) (A : Option Addr) (n c : Nat) (L : Nat → Fa) (A2 : Option Addr) (q c2 : Nat) (P : Nat → Po) (fm to known : Int) (h : RdFa w w.heap.size A n L) (h2 : RdPo w w.heap.size A2 q P) :
    Calls Try.prog 28 #[.agg #[.slice A n c], .agg #[.slice A2 q c2], .int .i64 fm, .int .i64 to, .int .i64 known] w fun e w' => e = .returned (.int .i64 (revalL n L q P fm to known)) ∧ Below w.heap.size w w' := by
  have hn := h.1
  have hn2 := h2.1
  have hbb : Below w.heap.size w ((w.alloc (.cells #[.slice A n c] 26)).alloc (.cells #[.slice A2 q c2] 29)) := ((Below.refl _ _).alloc (Nat.le_refl _) _).alloc (by simp) _
  cases hok : stOk n L
  · have hz : revalL n L q P fm to known = 0 := by simp [revalL, hok]
    rw [hz]
    go_enter Try.func28, Try.ntmps28
    go_wp2_with fail
    refine (sRange _ A n c L fm to ((h.below hbb).more (by simp; omega))).mono ?_
    rintro e w1 ⟨rfl, hb1⟩
    obtain ⟨hc1, -⟩ := keepc hb1
    have c0 : w1.cell? ⟨w.heap.size, 0, none⟩ = some (.slice A n c) := by rw [hc1 _ _ (by simp <;> omega)]; simp [go_sem]
    have c1 : w1.cell? ⟨w.heap.size + 1, 0, none⟩ = some (.slice A2 q c2) := by rw [hc1 _ _ (by simp <;> omega)]; simp [go_sem]
    have hz1 : w.heap.size + 1 < w1.heap.size := by have := hb1.size; simp at this; omega
    have hB1 := hbb.trans (hb1.mono (by simp; omega))
    clear hc1 hb1
    rw [hok]
    go_wp2_with fail
    go_ret
    exact ⟨rfl, hB1⟩
  · cases ea : endB fm
    · have hz : revalL n L q P fm to known = 0 := by simp [revalL, ea]
      rw [hz]
      go_enter Try.func28, Try.ntmps28
      go_wp2_with fail
      refine (sRange _ A n c L fm to ((h.below hbb).more (by simp; omega))).mono ?_
      rintro e w1 ⟨rfl, hb1⟩
      obtain ⟨hc1, -⟩ := keepc hb1
      have c0 : w1.cell? ⟨w.heap.size, 0, none⟩ = some (.slice A n c) := by rw [hc1 _ _ (by simp <;> omega)]; simp [go_sem]
      have c1 : w1.cell? ⟨w.heap.size + 1, 0, none⟩ = some (.slice A2 q c2) := by rw [hc1 _ _ (by simp <;> omega)]; simp [go_sem]
      have hz1 : w.heap.size + 1 < w1.heap.size := by have := hb1.size; simp at this; omega
      have hB1 := hbb.trans (hb1.mono (by simp; omega))
      clear hc1 hb1
      rw [hok, ea]
      go_wp2_with fail
      go_ret
      exact ⟨rfl, hB1⟩
    · cases eb : endB to
      · have hz : revalL n L q P fm to known = 0 := by simp [revalL, ea, eb]
        rw [hz]
        go_enter Try.func28, Try.ntmps28
        go_wp2_with fail
        refine (sRange _ A n c L fm to ((h.below hbb).more (by simp; omega))).mono ?_
        rintro e w1 ⟨rfl, hb1⟩
        obtain ⟨hc1, -⟩ := keepc hb1
        have c0 : w1.cell? ⟨w.heap.size, 0, none⟩ = some (.slice A n c) := by rw [hc1 _ _ (by simp <;> omega)]; simp [go_sem]
        have c1 : w1.cell? ⟨w.heap.size + 1, 0, none⟩ = some (.slice A2 q c2) := by rw [hc1 _ _ (by simp <;> omega)]; simp [go_sem]
        have hz1 : w.heap.size + 1 < w1.heap.size := by have := hb1.size; simp at this; omega
        have hB1 := hbb.trans (hb1.mono (by simp; omega))
        clear hc1 hb1
        rw [hok, ea, eb]
        go_wp2_with fail
        go_ret
        exact ⟨rfl, hB1⟩
      · cases hse : seOk q P
        · have hz : revalL n L q P fm to known = 0 := by simp [revalL, hse, ea, eb]
          rw [hz]
          go_enter Try.func28, Try.ntmps28
          go_wp2_with fail
          refine (sRange _ A n c L fm to ((h.below hbb).more (by simp; omega))).mono ?_
          rintro e w1 ⟨rfl, hb1⟩
          obtain ⟨hc1, -⟩ := keepc hb1
          have c0 : w1.cell? ⟨w.heap.size, 0, none⟩ = some (.slice A n c) := by rw [hc1 _ _ (by simp <;> omega)]; simp [go_sem]
          have c1 : w1.cell? ⟨w.heap.size + 1, 0, none⟩ = some (.slice A2 q c2) := by rw [hc1 _ _ (by simp <;> omega)]; simp [go_sem]
          have hz1 : w.heap.size + 1 < w1.heap.size := by have := hb1.size; simp at this; omega
          have hB1 := hbb.trans (hb1.mono (by simp; omega))
          clear hc1 hb1
          rw [hok, ea, eb]
          go_wp2_with fail
          refine (sSeriesOk _ A2 q c2 P ((h2.below hB1).more hB1.size)).mono ?_
          rintro e w2 ⟨rfl, hb2⟩
          obtain ⟨hc2, -⟩ := keepc hb2
          replace c0 : w2.cell? ⟨w.heap.size, 0, none⟩ = some (.slice A n c) := by rw [hc2 _ _ (by omega)]; exact c0
          replace c1 : w2.cell? ⟨w.heap.size + 1, 0, none⟩ = some (.slice A2 q c2) := by rw [hc2 _ _ (by omega)]; exact c1
          have hs2 := hb2.size
          have hz2 : w.heap.size + 1 < w2.heap.size := by omega
          have hB2 := hB1.trans (hb2.mono (by omega))
          clear hc2 hb2
          rw [hse]
          go_wp2_with fail
          go_ret
          exact ⟨rfl, hB2⟩
        · have hz : revalL n L q P fm to known = rvSum n L q P fm to known (to - fm).toNat := by simp [revalL, hok, hse, ea, eb]
          rw [hz]
          clear hz
          have hm1 := inB_iff.1 ea
          have hm2 := inB_iff.1 eb
          have hwt : IntKind.i64.wrap (to - 1) = to - 1 := IntWalk.i64_in _ ⟨by omega, by omega⟩
          obtain ⟨R3, hR3⟩ : ∃ R3, R3 = indexL q P (to - 1) known := ⟨_, rfl⟩
          go_enter Try.func28, Try.ntmps28
          go_wp2_with fail
          refine (sRange _ A n c L fm to ((h.below hbb).more (by simp; omega))).mono ?_
          rintro e w1 ⟨rfl, hb1⟩
          obtain ⟨hc1, -⟩ := keepc hb1
          have c0 : w1.cell? ⟨w.heap.size, 0, none⟩ = some (.slice A n c) := by rw [hc1 _ _ (by simp <;> omega)]; simp [go_sem]
          have c1 : w1.cell? ⟨w.heap.size + 1, 0, none⟩ = some (.slice A2 q c2) := by rw [hc1 _ _ (by simp <;> omega)]; simp [go_sem]
          have hz1 : w.heap.size + 1 < w1.heap.size := by have := hb1.size; simp at this; omega
          have hB1 := hbb.trans (hb1.mono (by simp; omega))
          clear hc1 hb1
          rw [hok, ea, eb]
          go_wp2_with fail
          refine (sSeriesOk _ A2 q c2 P ((h2.below hB1).more hB1.size)).mono ?_
          rintro e w2 ⟨rfl, hb2⟩
          obtain ⟨hc2, -⟩ := keepc hb2
          replace c0 : w2.cell? ⟨w.heap.size, 0, none⟩ = some (.slice A n c) := by rw [hc2 _ _ (by omega)]; exact c0
          replace c1 : w2.cell? ⟨w.heap.size + 1, 0, none⟩ = some (.slice A2 q c2) := by rw [hc2 _ _ (by omega)]; exact c1
          have hs2 := hb2.size
          have hz2 : w.heap.size + 1 < w2.heap.size := by omega
          have hB2 := hB1.trans (hb2.mono (by omega))
          clear hc2 hb2
          rw [hse]
          have VL := sIndexAt w2 A2 q c2 P (to - 1) known ((h2.below hB2).more hB2.size)
          rw [← hR3] at VL
          go_wp2_with fail
          refine (VL).mono ?_
          rintro e w3 ⟨rfl, hb3⟩
          obtain ⟨hc3, -⟩ := keepc hb3
          replace c0 : w3.cell? ⟨w.heap.size, 0, none⟩ = some (.slice A n c) := by rw [hc3 _ _ (by omega)]; exact c0
          replace c1 : w3.cell? ⟨w.heap.size + 1, 0, none⟩ = some (.slice A2 q c2) := by rw [hc3 _ _ (by omega)]; exact c1
          have hs3 := hb3.size
          have hz3 : w.heap.size + 1 < w3.heap.size := by omega
          have hB3 := hB2.trans (hb3.mono (by omega))
          clear hc3 hb3
          clear VL
          cases R3 with
          | none =>
            have HR := Lib.hid (rvSum_no (n := n) (L := L) (fm := fm) hR3.symm (to - fm).toNat)
            clear hR3
            by_cases hft : fm < to
            · go_wp2_with fail
              go_loopw [11, 14] (fun s i wr => s = .int .i64 0 ∧ i = .int .i64 fm ∧ Below w.heap.size w wr) (fun _ _ _ => 0)
              case atStart => exact ⟨rfl, rfl, hB3⟩
              case round =>
                obtain ⟨rfl, rfl, hbr⟩ := hrel
                go_wp2_with fail
                go_ret
                exact ⟨ret_int HR.out.symm, hbr⟩
            · go_wp2_with fail
              go_loopw [11, 14] (fun s i wr => s = .int .i64 0 ∧ i = .int .i64 fm ∧ Below w.heap.size w wr) (fun _ _ _ => 0)
              case atStart => exact ⟨rfl, rfl, hB3⟩
              case round =>
                obtain ⟨rfl, rfl, hbr⟩ := hrel
                go_wp2_with fail
                go_ret
                exact ⟨ret_int HR.out.symm, hbr⟩
          | some e3 =>
            have HR3 := Lib.hid hR3
            clear hR3
            go_wp2_with fail
            go_loopw [11, 14] (fun s i wr => ∃ k : Nat, k ≤ (to - fm).toNat ∧ i = .int .i64 (fm + k) ∧ s = .int .i64 (rvSum n L q P fm to known k) ∧ wr.cell? ⟨w.heap.size, 0, none⟩ = some (.slice A n c) ∧ wr.cell? ⟨w.heap.size + 1, 0, none⟩ = some (.slice A2 q c2) ∧ w.heap.size + 1 < wr.heap.size ∧ Below w.heap.size w wr) (fun _ i _ => (to - intOf i).toNat)
            case atStart => exact ⟨0, Nat.zero_le _, by simp, rfl, c0, c1, hz3, hB3⟩
            case round =>
              obtain ⟨k, hk, rfl, rfl, c0, c1, hzr, hBr⟩ := hrel
              have hs1 := hBr.size
              by_cases hlt : k < (to - fm).toNat
              · have hlt2 : fm + (k : Int) < to := by omega
                have hbd1 := rvSum_bd hok hse fm to known k
                have hone := rvOf_bd hok hse to known (fm + (k : Int))
                have hst : rvSum n L q P fm to known (k + 1) = rvSum n L q P fm to known k + rvOne n L q P to known (fm + (k : Int)) := rfl
                rw [rvOne] at hst hone
                have hwk : IntKind.i64.wrap (fm + (k : Int) + 1) = fm + ((k + 1 : Nat) : Int) := by rw [IntWalk.i64_in _ ⟨by omega, by omega⟩]; omega
                obtain ⟨S0, hS0⟩ : ∃ S0, S0 = rvSum n L q P fm to known k := ⟨_, rfl⟩
                rw [← hS0] at hst hbd1
                obtain ⟨S1, hS1⟩ : ∃ S1, S1 = rvSum n L q P fm to known (k + 1) := ⟨_, rfl⟩
                rw [← hS1] at hst
                obtain ⟨mk, hmk⟩ : ∃ mk : Int, mk = fm + (k : Int) := ⟨_, rfl⟩
                rw [← hmk] at hst hone hlt2 hwk
                have HMK := Lib.hid hmk
                rw [← hS0, ← hmk]
                have HS1 := Lib.hid hS1
                clear hS1 hS0
                obtain ⟨R1, hR1⟩ : ∃ R1, R1 = valFrom L 1 mk known n := ⟨_, rfl⟩
                obtain ⟨R2, hR2⟩ : ∃ R2, R2 = indexL q P mk known := ⟨_, rfl⟩
                have mv : ∀ v, R1 = some v → -1000000000 ≤ v ∧ v ≤ 1000000000 := fun v hv => by obtain ⟨j, hj, rfl⟩ := valFrom_mem (hR1.symm.trans hv); exact stOk_val hok hj
                have mi : ∀ v, R2 = some v → 1 ≤ v ∧ v ≤ 1000000 := fun v hv => by obtain ⟨j, hj, rfl⟩ := indexL_mem (hR2.symm.trans hv); exact seOk_val hse hj
                have V1 := sValueAt wr A n c L 1 mk known ((h.below hBr).more hs1)
                rw [← hR1] at V1
                rw [← hR1, ← hR2] at hst hone
                have V2 := fun (v : World) (hv : RdPo v v.heap.size A2 q P) => sIndexAt v A2 q c2 P mk known hv
                rw [← hR2] at V2
                clear hR1 hR2
                rw [← HR3.out] at hst hone
                have me : 1 ≤ e3 ∧ e3 ≤ 1000000 := by obtain ⟨j, hj, rfl⟩ := indexL_mem HR3.out.symm; exact seOk_val hse hj
                clear hmk
                cases R1 with
                | none =>
                  have HST := Lib.hid (show S1 = S0 by rw [hst]; simp [rvOf])
                  clear hst hone mv mi me
                  go_wp2_with fail
                  refine (V1).mono ?_
                  rintro e w5 ⟨rfl, hb5⟩
                  obtain ⟨hc5, -⟩ := keepc hb5
                  replace c0 : w5.cell? ⟨w.heap.size, 0, none⟩ = some (.slice A n c) := by rw [hc5 _ _ (by omega)]; exact c0
                  replace c1 : w5.cell? ⟨w.heap.size + 1, 0, none⟩ = some (.slice A2 q c2) := by rw [hc5 _ _ (by omega)]; exact c1
                  have hs5 := hb5.size
                  have hz5 : w.heap.size + 1 < w5.heap.size := by omega
                  have hB5 := hBr.trans (hb5.mono (by omega))
                  clear hc5 hb5
                  clear V1
                  go_wp2_with fail
                  refine (V2 w5 ((h2.below hB5).more hB5.size)).mono ?_
                  rintro e w6 ⟨rfl, hb6⟩
                  obtain ⟨hc6, -⟩ := keepc hb6
                  replace c0 : w6.cell? ⟨w.heap.size, 0, none⟩ = some (.slice A n c) := by rw [hc6 _ _ (by omega)]; exact c0
                  replace c1 : w6.cell? ⟨w.heap.size + 1, 0, none⟩ = some (.slice A2 q c2) := by rw [hc6 _ _ (by omega)]; exact c1
                  have hs6 := hb6.size
                  have hz6 : w.heap.size + 1 < w6.heap.size := by omega
                  have hB6 := hB5.trans (hb6.mono (by omega))
                  clear hc6 hb6
                  clear V2
                  go_wp2_with fail
                  go_roundw
                  case rel => exact ⟨k + 1, by omega, by simp, by rw [← HS1.out, HST.out], c0, c1, hz6, hB6⟩
                  case measure => have := HMK.out; simp only [intOf]; omega
                | some v =>
                  cases R2 with
                  | none =>
                    have HST := Lib.hid (show S1 = S0 by rw [hst]; simp [rvOf])
                    clear hst hone mv mi me
                    go_wp2_with fail
                    refine (V1).mono ?_
                    rintro e w5 ⟨rfl, hb5⟩
                    obtain ⟨hc5, -⟩ := keepc hb5
                    replace c0 : w5.cell? ⟨w.heap.size, 0, none⟩ = some (.slice A n c) := by rw [hc5 _ _ (by omega)]; exact c0
                    replace c1 : w5.cell? ⟨w.heap.size + 1, 0, none⟩ = some (.slice A2 q c2) := by rw [hc5 _ _ (by omega)]; exact c1
                    have hs5 := hb5.size
                    have hz5 : w.heap.size + 1 < w5.heap.size := by omega
                    have hB5 := hBr.trans (hb5.mono (by omega))
                    clear hc5 hb5
                    clear V1
                    go_wp2_with fail
                    refine (V2 w5 ((h2.below hB5).more hB5.size)).mono ?_
                    rintro e w6 ⟨rfl, hb6⟩
                    obtain ⟨hc6, -⟩ := keepc hb6
                    replace c0 : w6.cell? ⟨w.heap.size, 0, none⟩ = some (.slice A n c) := by rw [hc6 _ _ (by omega)]; exact c0
                    replace c1 : w6.cell? ⟨w.heap.size + 1, 0, none⟩ = some (.slice A2 q c2) := by rw [hc6 _ _ (by omega)]; exact c1
                    have hs6 := hb6.size
                    have hz6 : w.heap.size + 1 < w6.heap.size := by omega
                    have hB6 := hB5.trans (hb6.mono (by omega))
                    clear hc6 hb6
                    clear V2
                    go_wp2_with fail
                    go_roundw
                    case rel => exact ⟨k + 1, by omega, by simp, by rw [← HS1.out, HST.out], c0, c1, hz6, hB6⟩
                    case measure => have := HMK.out; simp only [intOf]; omega
                  | some a =>
                    by_cases hv : 0 < v
                    · have b1 := mv _ rfl
                      have b2 := mi _ rfl
                      have b3 := me
                      have hmul := mul_bd (show 0 ≤ v by omega) b1.2 (show 0 ≤ e3 by omega) b3.2
                      have htd := tdiv_bd hmul.1 (show v * e3 ≤ 1000000000000000 by omega) b2.1
                      simp only [rvOf, if_pos hv] at hst hone
                      have hv2 : (0 : Int) < v := hv
                      have m1 : IntKind.i64.wrap (v * e3) = v * e3 := IntWalk.i64_in _ ⟨by omega, by omega⟩
                      have m2 : IntKind.i64.wrap ((v * e3).tdiv a) = (v * e3).tdiv a := IntWalk.i64_in _ ⟨by omega, by omega⟩
                      have m3 : IntKind.i64.wrap (S0 + (v * e3).tdiv a) = S0 + (v * e3).tdiv a := IntWalk.i64_in _ ⟨by omega, by omega⟩
                      have ha0 : ¬ a = 0 := by omega
                      have HST := Lib.hid hst
                      clear hst hone mv mi me hmul htd
                      go_wp2_with fail
                      refine (V1).mono ?_
                      rintro e w5 ⟨rfl, hb5⟩
                      obtain ⟨hc5, -⟩ := keepc hb5
                      replace c0 : w5.cell? ⟨w.heap.size, 0, none⟩ = some (.slice A n c) := by rw [hc5 _ _ (by omega)]; exact c0
                      replace c1 : w5.cell? ⟨w.heap.size + 1, 0, none⟩ = some (.slice A2 q c2) := by rw [hc5 _ _ (by omega)]; exact c1
                      have hs5 := hb5.size
                      have hz5 : w.heap.size + 1 < w5.heap.size := by omega
                      have hB5 := hBr.trans (hb5.mono (by omega))
                      clear hc5 hb5
                      clear V1
                      go_wp2_with fail
                      refine (V2 w5 ((h2.below hB5).more hB5.size)).mono ?_
                      rintro e w6 ⟨rfl, hb6⟩
                      obtain ⟨hc6, -⟩ := keepc hb6
                      replace c0 : w6.cell? ⟨w.heap.size, 0, none⟩ = some (.slice A n c) := by rw [hc6 _ _ (by omega)]; exact c0
                      replace c1 : w6.cell? ⟨w.heap.size + 1, 0, none⟩ = some (.slice A2 q c2) := by rw [hc6 _ _ (by omega)]; exact c1
                      have hs6 := hb6.size
                      have hz6 : w.heap.size + 1 < w6.heap.size := by omega
                      have hB6 := hB5.trans (hb6.mono (by omega))
                      clear hc6 hb6
                      clear V2
                      go_wp2_with fail
                      go_roundw
                      case rel => exact ⟨k + 1, by omega, by simp, by rw [← HS1.out, HST.out], c0, c1, hz6, hB6⟩
                      case measure => have := HMK.out; simp only [intOf]; omega
                    · have hv2 : ¬ (0 : Int) < v := hv
                      have HST := Lib.hid (show S1 = S0 by rw [hst]; simp [rvOf, if_neg hv])
                      clear hst hone mv mi me
                      go_wp2_with fail
                      refine (V1).mono ?_
                      rintro e w5 ⟨rfl, hb5⟩
                      obtain ⟨hc5, -⟩ := keepc hb5
                      replace c0 : w5.cell? ⟨w.heap.size, 0, none⟩ = some (.slice A n c) := by rw [hc5 _ _ (by omega)]; exact c0
                      replace c1 : w5.cell? ⟨w.heap.size + 1, 0, none⟩ = some (.slice A2 q c2) := by rw [hc5 _ _ (by omega)]; exact c1
                      have hs5 := hb5.size
                      have hz5 : w.heap.size + 1 < w5.heap.size := by omega
                      have hB5 := hBr.trans (hb5.mono (by omega))
                      clear hc5 hb5
                      clear V1
                      go_wp2_with fail
                      refine (V2 w5 ((h2.below hB5).more hB5.size)).mono ?_
                      rintro e w6 ⟨rfl, hb6⟩
                      obtain ⟨hc6, -⟩ := keepc hb6
                      replace c0 : w6.cell? ⟨w.heap.size, 0, none⟩ = some (.slice A n c) := by rw [hc6 _ _ (by omega)]; exact c0
                      replace c1 : w6.cell? ⟨w.heap.size + 1, 0, none⟩ = some (.slice A2 q c2) := by rw [hc6 _ _ (by omega)]; exact c1
                      have hs6 := hb6.size
                      have hz6 : w.heap.size + 1 < w6.heap.size := by omega
                      have hB6 := hB5.trans (hb6.mono (by omega))
                      clear hc6 hb6
                      clear V2
                      go_wp2_with fail
                      go_roundw
                      case rel => exact ⟨k + 1, by omega, by simp, by rw [← HS1.out, HST.out], c0, c1, hz6, hB6⟩
                      case measure => have := HMK.out; simp only [intOf]; omega
              · obtain rfl : k = (to - fm).toNat := by omega
                have hge : ¬ fm + (((to - fm).toNat : Nat) : Int) < to := by omega
                obtain ⟨Z, hZ⟩ : ∃ Z : Int, Z = fm + (((to - fm).toNat : Nat) : Int) := ⟨_, rfl⟩
                rw [← hZ] at hge ⊢
                go_wp2_with fail
                go_ret
                exact ⟨rfl, hBr⟩
end Go.Proofs.Ytondmakaednpdaa
