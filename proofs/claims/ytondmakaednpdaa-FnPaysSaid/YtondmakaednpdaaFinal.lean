/- FinalPay of the program and of the reference, and its given statement. No conditions. -/
import Derived.Test.YtondmakaednpdaaStore
import Derived.Test.YtondmakaednpdaaMonths
import Derived.Deep.RegionHeld3
namespace Go.Proofs.Ytondmakaednpdaa
open Go.RowKit

/-- The pay of the last month ahead of month k that has one. -/
def finFrom (L : Nat → Fa) (n : Nat) (known : Int) : Nat → Option Int
  | 0 => none
  | k + 1 => match valFrom L 1 (k : Int) known n with
    | some v => some v
    | none => finFrom L n known k
def finalL (n : Nat) (L : Nat → Fa) (m known : Int) : Option Int := if stOk n L && endB m then finFrom L n known m.toNat else none

set_option maxHeartbeats 3200000 in
theorem sValueAt (w : World) (A : Option Addr) (n c : Nat) (L : Nat → Fa) (key m known : Int) (h : RdFa w w.heap.size A n L) :
    Calls Try.prog 15 #[.agg #[.slice A n c], .int .i64 key, .int .i64 m, .int .i64 known] w fun e w' => e = .returned (.tuple #[.int .i64 ((valFrom L key m known n).getD 0), .bool (valFrom L key m known n).isSome]) ∧ Below w.heap.size w w' := by
  have hn := h.1
  obtain ⟨R, hR⟩ : ∃ R, R = valFrom L key m known n := ⟨_, rfl⟩
  rw [← hR]
  have HR := Lib.hid hR.symm
  clear hR
  have hwz : IntKind.i64.wrap ((n : Int) - 1) = (n : Int) - 1 := IntWalk.i64_in _ ⟨by omega, by omega⟩
  have hbb : Below w.heap.size w (w.alloc (.cells #[.slice A n c] 26)) := (Below.refl _ _).alloc (Nat.le_refl _) _
  go_enter Try.func15, Try.ntmps15
  go_wp2_with fail
  go_loopw [10] (fun i wr => ∃ r : Nat, r ≤ n ∧ i = .int .i64 ((r : Int) - 1) ∧ Hid (valFrom L key m known r = R) ∧ wr.cell? ⟨w.heap.size, 0, none⟩ = some (.slice A n c) ∧ w.heap.size < wr.heap.size ∧ Below w.heap.size w wr) (fun i _ => (intOf i + 1).toNat)
  case atStart => exact ⟨n, Nat.le_refl _, rfl, HR, by simp [go_sem], by simp, hbb⟩
  case round =>
    obtain ⟨r, hr, rfl, hv, hbox, hzb, hbr⟩ := hrel
    clear HR
    cases r with
    | zero =>
      have HV := Lib.hid hv.out.symm
      clear hv
      go_wp2_with fail
      go_ret2
      exact ⟨by rw [HV.out]; rfl, hbr⟩
    | succ q =>
      rw [show (((q + 1 : Nat) : Int) - 1) = (q : Int) by omega]
      have hs1 := hbr.size
      obtain ⟨b, off, rfl, hbB, h0, h1, h2, h3, h4⟩ := (h.below hbr).2 q (by omega)
      have hq1 : (q : Int) < n := by omega
      have hwq : IntKind.i64.wrap ((q : Int) - 1) = (q : Int) - 1 := IntWalk.i64_in _ ⟨by omega, by omega⟩
      have hne : ¬ b = wr.heap.size := by omega
      have hne2 : ¬ w.heap.size = wr.heap.size := by omega
      clear h
      cases e1 : (L q).k == key
      · go_wp2_with fail
        go_roundw
        case rel => exact ⟨q, by omega, rfl, Lib.hid (by rw [← hv.out, valFrom, if_neg (by simp [vHit, e1])]), by simp [go_sem, *], by simp; omega, (by (repeat (first | (with_reducible exact Below.refl _ _) | (with_reducible assumption) | (with_reducible refine Below.drew ?_) | (with_reducible refine below_drewN ?_ _) | ((with_reducible refine Below.setCell ?_ ?_ _); rotate_left; focus (first | (simp; done) | omega | (simp; omega))) | ((with_reducible refine Below.alloc ?_ ?_ _); rotate_left; focus (first | exact Nat.le_refl _ | omega | (simp; done) | (simp; omega))))))⟩
        case measure => simp [intOf] <;> omega
      · skip
        cases e2 : decide ((L q).f ≤ m)
        · go_wp2_with fail
          go_roundw
          case rel => exact ⟨q, by omega, rfl, Lib.hid (by rw [← hv.out, valFrom, if_neg (by simp [vHit, e1, e2])]), by simp [go_sem, *], by simp; omega, (by (repeat (first | (with_reducible exact Below.refl _ _) | (with_reducible assumption) | (with_reducible refine Below.drew ?_) | (with_reducible refine below_drewN ?_ _) | ((with_reducible refine Below.setCell ?_ ?_ _); rotate_left; focus (first | (simp; done) | omega | (simp; omega))) | ((with_reducible refine Below.alloc ?_ ?_ _); rotate_left; focus (first | exact Nat.le_refl _ | omega | (simp; done) | (simp; omega))))))⟩
          case measure => simp [intOf] <;> omega
        · skip
          cases e3 : decide (m < (L q).t)
          · go_wp2_with fail
            go_roundw
            case rel => exact ⟨q, by omega, rfl, Lib.hid (by rw [← hv.out, valFrom, if_neg (by simp [vHit, e1, e2, e3])]), by simp [go_sem, *], by simp; omega, (by (repeat (first | (with_reducible exact Below.refl _ _) | (with_reducible assumption) | (with_reducible refine Below.drew ?_) | (with_reducible refine below_drewN ?_ _) | ((with_reducible refine Below.setCell ?_ ?_ _); rotate_left; focus (first | (simp; done) | omega | (simp; omega))) | ((with_reducible refine Below.alloc ?_ ?_ _); rotate_left; focus (first | exact Nat.le_refl _ | omega | (simp; done) | (simp; omega))))))⟩
            case measure => simp [intOf] <;> omega
          · skip
            cases e4 : decide ((L q).n ≤ known)
            · go_wp2_with fail
              go_roundw
              case rel => exact ⟨q, by omega, rfl, Lib.hid (by rw [← hv.out, valFrom, if_neg (by simp [vHit, e1, e2, e3, e4])]), by simp [go_sem, *], by simp; omega, (by (repeat (first | (with_reducible exact Below.refl _ _) | (with_reducible assumption) | (with_reducible refine Below.drew ?_) | (with_reducible refine below_drewN ?_ _) | ((with_reducible refine Below.setCell ?_ ?_ _); rotate_left; focus (first | (simp; done) | omega | (simp; omega))) | ((with_reducible refine Below.alloc ?_ ?_ _); rotate_left; focus (first | exact Nat.le_refl _ | omega | (simp; done) | (simp; omega))))))⟩
              case measure => simp [intOf] <;> omega
            · skip
              go_wp2_with fail
              go_ret2
              exact ⟨by rw [← hv.out, valFrom, if_pos (by simp [vHit, e1, e2, e3, e4])]; rfl, (by (repeat (first | (with_reducible exact Below.refl _ _) | (with_reducible assumption) | (with_reducible refine Below.drew ?_) | (with_reducible refine below_drewN ?_ _) | ((with_reducible refine Below.setCell ?_ ?_ _); rotate_left; focus (first | (simp; done) | omega | (simp; omega))) | ((with_reducible refine Below.alloc ?_ ?_ _); rotate_left; focus (first | exact Nat.le_refl _ | omega | (simp; done) | (simp; omega))))))⟩

set_option maxHeartbeats 3200000 in
theorem iFinalPay (w : World) (A : Option Addr) (n c : Nat) (L : Nat → Fa) (m known : Int) (h : RdFa w w.heap.size A n L) :
    Calls Try.prog 14 #[.agg #[.slice A n c], .int .i64 m, .int .i64 known] w fun e w' => e = .returned (.tuple #[.int .i64 ((finalL n L m known).getD 0), .bool (finalL n L m known).isSome]) ∧ Below w.heap.size w w' := by
  have hn := h.1
  have hbb : Below w.heap.size w (w.alloc (.cells #[.slice A n c] 26)) := (Below.refl _ _).alloc (Nat.le_refl _) _
  cases hok : stOk n L
  · have hz : finalL n L m known = none := by simp [finalL, hok]
    rw [hz]
    go_enter Try.func14, Try.ntmps14
    go_wp2_with fail
    refine (iStoreOk _ A n c L ((h.below hbb).more (by simp))).mono ?_
    rintro e w1 ⟨rfl, hb1⟩
    rw [hok]
    obtain ⟨hc1, -⟩ := keepc hb1
    have c0 : w1.cell? ⟨w.heap.size, 0, none⟩ = some (.slice A n c) := by rw [hc1 _ _ (by simp)]; simp [go_sem]
    have hz1 : w.heap.size < w1.heap.size := by have := hb1.size; simp at this; omega
    have hB1 := hbb.trans (hb1.mono (by simp))
    clear hc1 hb1
    go_wp2_with fail
    go_ret2
    exact ⟨rfl, hB1⟩
  · cases hend : endB m
    · have hz : finalL n L m known = none := by simp [finalL, hend]
      rw [hz]
      go_enter Try.func14, Try.ntmps14
      go_wp2_with fail
      refine (iStoreOk _ A n c L ((h.below hbb).more (by simp))).mono ?_
      rintro e w1 ⟨rfl, hb1⟩
      rw [hok]
      obtain ⟨hc1, -⟩ := keepc hb1
      have c0 : w1.cell? ⟨w.heap.size, 0, none⟩ = some (.slice A n c) := by rw [hc1 _ _ (by simp)]; simp [go_sem]
      have hz1 : w.heap.size < w1.heap.size := by have := hb1.size; simp at this; omega
      have hB1 := hbb.trans (hb1.mono (by simp))
      clear hc1 hb1
      go_wp2_with (go_at_call 37; refine (isEnd_any _ _).mono ?_; rintro e w' ⟨rfl, rfl⟩)
      go_ret2
      exact ⟨rfl, hB1⟩
    · have hz : finalL n L m known = finFrom L n known m.toNat := by simp [finalL, hok, hend]
      rw [hz]
      obtain ⟨R, hR⟩ : ∃ R, R = finFrom L n known m.toNat := ⟨_, rfl⟩
      rw [← hR]
      have HR := Lib.hid hR.symm
      clear hR hz
      have hm := inB_iff.1 hend
      have hwm : IntKind.i64.wrap (m - 1) = m - 1 := IntWalk.i64_in _ ⟨by omega, by omega⟩
      have hmm : ((m.toNat : Nat) : Int) = m := by omega
      go_enter Try.func14, Try.ntmps14
      go_wp2_with fail
      refine (iStoreOk _ A n c L ((h.below hbb).more (by simp))).mono ?_
      rintro e w1 ⟨rfl, hb1⟩
      rw [hok]
      obtain ⟨hc1, -⟩ := keepc hb1
      have c0 : w1.cell? ⟨w.heap.size, 0, none⟩ = some (.slice A n c) := by rw [hc1 _ _ (by simp)]; simp [go_sem]
      have hz1 : w.heap.size < w1.heap.size := by have := hb1.size; simp at this; omega
      have hB1 := hbb.trans (hb1.mono (by simp))
      clear hc1 hb1
      go_wp2_with (go_at_call 37; refine (isEnd_any _ _).mono ?_; rintro e w' ⟨rfl, rfl⟩)
      go_loopw [8] (fun i wr => ∃ k : Nat, k ≤ 3600 ∧ i = .int .i64 ((k : Int) - 1) ∧ Hid (finFrom L n known k = R) ∧ wr.cell? ⟨w.heap.size, 0, none⟩ = some (.slice A n c) ∧ w.heap.size < wr.heap.size ∧ Below w.heap.size w wr) (fun i _ => (intOf i + 1).toNat)
      case atStart => exact ⟨m.toNat, by omega, by rw [hmm], HR, c0, hz1, hB1⟩
      case round =>
        obtain ⟨k, hk, rfl, hv, hbox, hzb, hbr⟩ := hrel
        have hs1 := hbr.size
        cases k with
        | zero =>
          have HV := Lib.hid hv.out.symm
          clear hv
          go_wp2_with fail
          go_ret2
          exact ⟨by rw [HV.out]; rfl, hbr⟩
        | succ k =>
          rw [show (((k + 1 : Nat) : Int) - 1) = (k : Int) by omega]
          have hwq : IntKind.i64.wrap ((k : Int) - 1) = (k : Int) - 1 := IntWalk.i64_in _ ⟨by omega, by omega⟩
          have VA := iValueAt wr A n c L 1 k known ((h.below hbr).more hs1)
          cases hq : valFrom L 1 (k : Int) known n with
          | none =>
            rw [hq] at VA
            have HV := Lib.hid (show finFrom L n known k = R by rw [← hv.out, finFrom, hq])
            clear hv hq HR
            go_wp2_with fail
            refine VA.mono ?_
            rintro e w5 ⟨rfl, hb5⟩
            clear VA
            obtain ⟨hc5, -⟩ := keepc hb5
            have hs5 := hb5.size
            have c5 : w5.cell? ⟨w.heap.size, 0, none⟩ = some (.slice A n c) := by rw [hc5 _ _ (by omega)]; exact hbox
            have hB5 := hbr.trans (hb5.mono hs1)
            have hz5 : w.heap.size < w5.heap.size := by omega
            clear hc5 hb5
            go_wp2_with fail
            go_roundw
            case rel => exact ⟨k, by omega, rfl, HV, c5, hz5, hB5⟩
            case measure => simp [intOf] <;> omega
          | some v =>
            rw [hq] at VA
            have HV := Lib.hid (show R = some v by rw [← hv.out, finFrom, hq])
            clear hv hq HR
            go_wp2_with fail
            refine VA.mono ?_
            rintro e w5 ⟨rfl, hb5⟩
            clear VA
            obtain ⟨hc5, -⟩ := keepc hb5
            have hs5 := hb5.size
            have c5 : w5.cell? ⟨w.heap.size, 0, none⟩ = some (.slice A n c) := by rw [hc5 _ _ (by omega)]; exact hbox
            have hB5 := hbr.trans (hb5.mono hs1)
            have hz5 : w.heap.size < w5.heap.size := by omega
            clear hc5 hb5
            go_wp2_with fail
            go_ret2
            exact ⟨by rw [HV.out]; rfl, hB5⟩

set_option maxHeartbeats 3200000 in
theorem sFinalPay (w : World) (A : Option Addr) (n c : Nat) (L : Nat → Fa) (m known : Int) (h : RdFa w w.heap.size A n L) :
    Calls Try.prog 17 #[.agg #[.slice A n c], .int .i64 m, .int .i64 known] w fun e w' => e = .returned (.tuple #[.int .i64 ((finalL n L m known).getD 0), .bool (finalL n L m known).isSome]) ∧ Below w.heap.size w w' := by
  have hn := h.1
  have hbb : Below w.heap.size w (w.alloc (.cells #[.slice A n c] 26)) := (Below.refl _ _).alloc (Nat.le_refl _) _
  cases hok : stOk n L
  · have hz : finalL n L m known = none := by simp [finalL, hok]
    rw [hz]
    go_enter Try.func17, Try.ntmps17
    go_wp2_with fail
    refine (sStoreOk _ A n c L ((h.below hbb).more (by simp))).mono ?_
    rintro e w1 ⟨rfl, hb1⟩
    rw [hok]
    obtain ⟨hc1, -⟩ := keepc hb1
    have c0 : w1.cell? ⟨w.heap.size, 0, none⟩ = some (.slice A n c) := by rw [hc1 _ _ (by simp)]; simp [go_sem]
    have hz1 : w.heap.size < w1.heap.size := by have := hb1.size; simp at this; omega
    have hB1 := hbb.trans (hb1.mono (by simp))
    clear hc1 hb1
    go_wp2_with fail
    go_ret2
    exact ⟨rfl, hB1⟩
  · cases hend : endB m
    · have hz : finalL n L m known = none := by simp [finalL, hend]
      rw [hz]
      go_enter Try.func17, Try.ntmps17
      go_wp2_with fail
      refine (sStoreOk _ A n c L ((h.below hbb).more (by simp))).mono ?_
      rintro e w1 ⟨rfl, hb1⟩
      rw [hok]
      obtain ⟨hc1, -⟩ := keepc hb1
      have c0 : w1.cell? ⟨w.heap.size, 0, none⟩ = some (.slice A n c) := by rw [hc1 _ _ (by simp)]; simp [go_sem]
      have hz1 : w.heap.size < w1.heap.size := by have := hb1.size; simp at this; omega
      have hB1 := hbb.trans (hb1.mono (by simp))
      clear hc1 hb1
      go_wp2_with (go_at_call 41; refine (l04End_any _ _).mono ?_; rintro e w' ⟨rfl, rfl⟩)
      go_ret2
      exact ⟨rfl, hB1⟩
    · have hz : finalL n L m known = finFrom L n known m.toNat := by simp [finalL, hok, hend]
      rw [hz]
      obtain ⟨R, hR⟩ : ∃ R, R = finFrom L n known m.toNat := ⟨_, rfl⟩
      rw [← hR]
      have HR := Lib.hid hR.symm
      clear hR hz
      have hm := inB_iff.1 hend
      have hwm : IntKind.i64.wrap (m - 1) = m - 1 := IntWalk.i64_in _ ⟨by omega, by omega⟩
      have hmm : ((m.toNat : Nat) : Int) = m := by omega
      go_enter Try.func17, Try.ntmps17
      go_wp2_with fail
      refine (sStoreOk _ A n c L ((h.below hbb).more (by simp))).mono ?_
      rintro e w1 ⟨rfl, hb1⟩
      rw [hok]
      obtain ⟨hc1, -⟩ := keepc hb1
      have c0 : w1.cell? ⟨w.heap.size, 0, none⟩ = some (.slice A n c) := by rw [hc1 _ _ (by simp)]; simp [go_sem]
      have hz1 : w.heap.size < w1.heap.size := by have := hb1.size; simp at this; omega
      have hB1 := hbb.trans (hb1.mono (by simp))
      clear hc1 hb1
      go_wp2_with (go_at_call 41; refine (l04End_any _ _).mono ?_; rintro e w' ⟨rfl, rfl⟩)
      go_loopw [8] (fun i wr => ∃ k : Nat, k ≤ 3600 ∧ i = .int .i64 ((k : Int) - 1) ∧ Hid (finFrom L n known k = R) ∧ wr.cell? ⟨w.heap.size, 0, none⟩ = some (.slice A n c) ∧ w.heap.size < wr.heap.size ∧ Below w.heap.size w wr) (fun i _ => (intOf i + 1).toNat)
      case atStart => exact ⟨m.toNat, by omega, by rw [hmm], HR, c0, hz1, hB1⟩
      case round =>
        obtain ⟨k, hk, rfl, hv, hbox, hzb, hbr⟩ := hrel
        have hs1 := hbr.size
        cases k with
        | zero =>
          have HV := Lib.hid hv.out.symm
          clear hv
          go_wp2_with fail
          go_ret2
          exact ⟨by rw [HV.out]; rfl, hbr⟩
        | succ k =>
          rw [show (((k + 1 : Nat) : Int) - 1) = (k : Int) by omega]
          have hwq : IntKind.i64.wrap ((k : Int) - 1) = (k : Int) - 1 := IntWalk.i64_in _ ⟨by omega, by omega⟩
          have VA := sValueAt wr A n c L 1 k known ((h.below hbr).more hs1)
          cases hq : valFrom L 1 (k : Int) known n with
          | none =>
            rw [hq] at VA
            have HV := Lib.hid (show finFrom L n known k = R by rw [← hv.out, finFrom, hq])
            clear hv hq HR
            go_wp2_with fail
            refine VA.mono ?_
            rintro e w5 ⟨rfl, hb5⟩
            clear VA
            obtain ⟨hc5, -⟩ := keepc hb5
            have hs5 := hb5.size
            have c5 : w5.cell? ⟨w.heap.size, 0, none⟩ = some (.slice A n c) := by rw [hc5 _ _ (by omega)]; exact hbox
            have hB5 := hbr.trans (hb5.mono hs1)
            have hz5 : w.heap.size < w5.heap.size := by omega
            clear hc5 hb5
            go_wp2_with fail
            go_roundw
            case rel => exact ⟨k, by omega, rfl, HV, c5, hz5, hB5⟩
            case measure => simp [intOf] <;> omega
          | some v =>
            rw [hq] at VA
            have HV := Lib.hid (show R = some v by rw [← hv.out, finFrom, hq])
            clear hv hq HR
            go_wp2_with fail
            refine VA.mono ?_
            rintro e w5 ⟨rfl, hb5⟩
            clear VA
            obtain ⟨hc5, -⟩ := keepc hb5
            have hs5 := hb5.size
            have c5 : w5.cell? ⟨w.heap.size, 0, none⟩ = some (.slice A n c) := by rw [hc5 _ _ (by omega)]; exact hbox
            have hB5 := hbr.trans (hb5.mono hs1)
            have hz5 : w.heap.size < w5.heap.size := by omega
            clear hc5 hb5
            go_wp2_with fail
            go_ret2
            exact ⟨by rw [HV.out]; rfl, hB5⟩
end Go.Proofs.Ytondmakaednpdaa
