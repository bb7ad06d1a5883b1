/- RuleFor and IsProtected of the program and of the reference. Conditions: the rules can be read. -/
import Derived.Test.YtjnckhdmaebfdaaBookOk
import Derived.Deep.QuietTactic
import Derived.BigQuiet
namespace Go.Proofs.Ytjnckhdmaebfdaa
open Go.RowKit

def ruHit (s : Ru) (name mo jo : Int) : Bool := s.nm == name && (decide (s.fr ≤ mo) && (decide (mo < s.to) && decide (jo < s.jo)))
/-- The place of the rule of a name in a month, for who joined then, among the first k. -/
def ruBest (R : Nat → Rn) (name mo jo : Int) : Nat → Option Nat
  | 0 => none
  | k + 1 => if ruHit (R k).s name mo jo && (match ruBest R name mo jo k with | none => true | some j => decide ((R j).s.ra < (R k).s.ra)) then some k else ruBest R name mo jo k
theorem ruBest_lt {R : Nat → Rn} {name mo jo : Int} : ∀ {k j : Nat}, ruBest R name mo jo k = some j → j < k
  | 0, j, h => by simp [ruBest] at h
  | k + 1, j, h => by
    rw [ruBest] at h
    split at h <;> split at h <;> first | (injection h with h; omega) | (have := ruBest_lt h; omega)
def ruNo : Option Nat → Int
  | none => -1
  | some j => (j : Int)
def ruleForL (m : Nat) (R : Nat → Rn) (name mo jo : Int) : Int := if bookB m R = true then ruNo (ruBest R name mo jo m) else -1
theorem ruBest_same {m : Nat} {R R' : Nat → Rn} (h : sameR R R' m) (name mo jo : Int) : ∀ k, k ≤ m → ruBest R' name mo jo k = ruBest R name mo jo k
  | 0, _ => rfl
  | k + 1, hk => by
    have ih := ruBest_same h name mo jo k (by omega)
    rw [ruBest, ruBest, ih, (h k (by omega)).1]
    cases e : ruBest R name mo jo k with
    | none => rfl
    | some j =>
      have := ruBest_lt e
      simp only [(h j (by omega)).1]
theorem ruleForL_same {m : Nat} {R R' : Nat → Rn} (h : sameR R R' m) (name mo jo : Int) : ruleForL m R' name mo jo = ruleForL m R name mo jo := by
  rw [ruleForL, ruleForL, bookB_same h, ruBest_same h name mo jo m (Nat.le_refl _)]

set_option maxRecDepth 8000 in
set_option maxHeartbeats 6400000 in
theorem iRuleFor (w : World) (A : Option Addr) (m c : Nat) (R : Nat → Rn) (name mo jo : Int) (h : RdRu w w.heap.size A m R) (hmc : m ≤ c) (hcx : c ≤ 9223372036854775807) (hn : ∀ i, i < m → (R i).n ≤ 1099511627776) :
    Calls Try.prog 23 #[.agg #[.slice A m c], .int .i64 name, .int .i64 mo, .int .i64 jo] w fun e w' => e = .returned (.int .i64 (ruleForL m R name mo jo)) ∧ Below w.heap.size w w' := by
  obtain ⟨V, hV⟩ : ∃ V, V = ruleForL m R name mo jo := ⟨_, rfl⟩
  rw [← hV]
  have HV0 := Lib.hid hV
  clear hV
  have HN := Lib.hid hn
  clear hn
  have hmx := h.1
  have hbx : Below w.heap.size w (w.alloc (.cells #[.slice A m c] 37)) := (Below.refl _ _).alloc (Nat.le_refl _) _
  go_enter Try.func23, Try.ntmps23
  go_wp2_with fail
  go_loopw [9, 15] (fun q i wr => ∃ k : Nat, k ≤ m ∧ i = .int .i64 k ∧ q = .int .i64 (ruNo (ruBest R name mo jo k)) ∧ wr.cell? ⟨w.heap.size, 0, none⟩ = some (.slice A m c) ∧ w.heap.size < wr.heap.size ∧ Below w.heap.size w wr) (fun _ i _ => m - (intOf i).toNat)
  case atStart => exact ⟨0, Nat.zero_le _, rfl, rfl, by simp [go_sem], by simp, hbx⟩
  case round =>
    clear hbx
    obtain ⟨k, hk, rfl, rfl, hbox, hzb, hbr⟩ := hrel
    have hs1 := hbr.size
    by_cases hlt : k < m
    · have hrd := (h.below hbr).2
      obtain ⟨⟨b, off, rfl, hbB, h0, h1, h2, h3, h4, h5, h6⟩, -⟩ := hrd k hlt
      have hlt2 : (k : Int) < m := by omega
      have hb1 : b < wr.heap.size := by omega
      have hne : ¬ b = wr.heap.size := by omega
      have hne2 : ¬ w.heap.size = wr.heap.size := by omega
      have hlt3 : ∀ j, ruBest R name mo jo k = some j → j < k := fun j e => ruBest_lt e
      have hst : ruBest R name mo jo (k + 1) = if ruHit (R k).s name mo jo && (match ruBest R name mo jo k with | none => true | some j => decide ((R j).s.ra < (R k).s.ra)) then some k else ruBest R name mo jo k := rfl
      obtain ⟨Q, hQ⟩ : ∃ Q, Q = ruBest R name mo jo k := ⟨_, rfl⟩
      rw [← hQ] at hlt3 hst ⊢
      clear hQ h
      cases t1 : (R k).s.nm == name
      · have HV := Lib.hid (show ruBest R name mo jo (k + 1) = Q by rw [hst]; simp [ruHit, t1])
        clear hst hlt3
        clear hrd
        go_wp2_with fail
        go_quiet (fail)
        go_wp2_with fail
        go_roundw
        case rel => exact ⟨k + 1, by omega, by go_num, by rw [HV.out], by simp [go_sem, *], by simp; omega, (by (repeat (first | (with_reducible exact Below.refl _ _) | (with_reducible assumption) | (with_reducible refine Below.drew ?_) | (with_reducible refine below_drewN ?_ _) | ((with_reducible refine Below.setCell ?_ ?_ _); rotate_left; focus (first | (simp; done) | omega | (simp; omega))) | ((with_reducible refine Below.alloc ?_ ?_ _); rotate_left; focus (first | exact Nat.le_refl _ | omega | (simp; done) | (simp; omega))))))⟩
        case measure => simp [intOf]; omega
      · skip
        cases t2 : decide ((R k).s.fr ≤ mo)
        · have HV := Lib.hid (show ruBest R name mo jo (k + 1) = Q by rw [hst]; simp [ruHit, t1, t2])
          clear hst hlt3
          clear hrd
          go_wp2_with fail
          go_quiet (fail)
          go_wp2_with fail
          go_roundw
          case rel => exact ⟨k + 1, by omega, by go_num, by rw [HV.out], by simp [go_sem, *], by simp; omega, (by (repeat (first | (with_reducible exact Below.refl _ _) | (with_reducible assumption) | (with_reducible refine Below.drew ?_) | (with_reducible refine below_drewN ?_ _) | ((with_reducible refine Below.setCell ?_ ?_ _); rotate_left; focus (first | (simp; done) | omega | (simp; omega))) | ((with_reducible refine Below.alloc ?_ ?_ _); rotate_left; focus (first | exact Nat.le_refl _ | omega | (simp; done) | (simp; omega))))))⟩
          case measure => simp [intOf]; omega
        · skip
          cases t3 : decide (mo < (R k).s.to)
          · have HV := Lib.hid (show ruBest R name mo jo (k + 1) = Q by rw [hst]; simp [ruHit, t1, t2, t3])
            clear hst hlt3
            clear hrd
            go_wp2_with fail
            go_quiet (fail)
            go_wp2_with fail
            go_roundw
            case rel => exact ⟨k + 1, by omega, by go_num, by rw [HV.out], by simp [go_sem, *], by simp; omega, (by (repeat (first | (with_reducible exact Below.refl _ _) | (with_reducible assumption) | (with_reducible refine Below.drew ?_) | (with_reducible refine below_drewN ?_ _) | ((with_reducible refine Below.setCell ?_ ?_ _); rotate_left; focus (first | (simp; done) | omega | (simp; omega))) | ((with_reducible refine Below.alloc ?_ ?_ _); rotate_left; focus (first | exact Nat.le_refl _ | omega | (simp; done) | (simp; omega))))))⟩
            case measure => simp [intOf]; omega
          · skip
            cases t4 : decide (jo < (R k).s.jo)
            · have HV := Lib.hid (show ruBest R name mo jo (k + 1) = Q by rw [hst]; simp [ruHit, t1, t2, t3, t4])
              clear hst hlt3
              clear hrd
              go_wp2_with fail
              go_quiet (fail)
              go_wp2_with fail
              go_roundw
              case rel => exact ⟨k + 1, by omega, by go_num, by rw [HV.out], by simp [go_sem, *], by simp; omega, (by (repeat (first | (with_reducible exact Below.refl _ _) | (with_reducible assumption) | (with_reducible refine Below.drew ?_) | (with_reducible refine below_drewN ?_ _) | ((with_reducible refine Below.setCell ?_ ?_ _); rotate_left; focus (first | (simp; done) | omega | (simp; omega))) | ((with_reducible refine Below.alloc ?_ ?_ _); rotate_left; focus (first | exact Nat.le_refl _ | omega | (simp; done) | (simp; omega))))))⟩
              case measure => simp [intOf]; omega
            · skip
              cases Q with
              | none =>
                simp only [ruNo]
                have HV := Lib.hid (show ruBest R name mo jo (k + 1) = some k by rw [hst]; simp [ruHit, t1, t2, t3, t4])
                clear hst hlt3
                clear hrd
                go_wp2_with fail
                go_quiet (fail)
                go_wp2_with fail
                go_roundw
                case rel => exact ⟨k + 1, by omega, by go_num, by rw [HV.out], by simp [go_sem, *], by simp; omega, (by (repeat (first | (with_reducible exact Below.refl _ _) | (with_reducible assumption) | (with_reducible refine Below.drew ?_) | (with_reducible refine below_drewN ?_ _) | ((with_reducible refine Below.setCell ?_ ?_ _); rotate_left; focus (first | (simp; done) | omega | (simp; omega))) | ((with_reducible refine Below.alloc ?_ ?_ _); rotate_left; focus (first | exact Nat.le_refl _ | omega | (simp; done) | (simp; omega))))))⟩
                case measure => simp [intOf]; omega
              | some j =>
                simp only [ruNo]
                have hjk := hlt3 j rfl
                obtain ⟨⟨b', off', he', -, g0, g1, g2, g3, g4, g5, g6⟩, -⟩ := hrd j (by omega)
                obtain ⟨rfl, rfl⟩ : b = b' ∧ off = off' := by injection he' with e; injection e with e1 e2 e3; exact ⟨e1, e2⟩
                clear he' hrd g0 g1 g2 g3 g5 g6
                have hj1 : (j : Int) < m := by omega
                have hj2 : ¬ (j : Int) < 0 := by omega
                have hj3 : j < m := by omega
                cases t5 : decide ((R j).s.ra < (R k).s.ra)
                · have HV := Lib.hid (show ruBest R name mo jo (k + 1) = some j by rw [hst]; simp [ruHit, t1, t2, t3, t4, t5])
                  clear hst hlt3
                  go_wp2_with fail
                  go_quiet (fail)
                  go_wp2_with fail
                  go_roundw
                  case rel => exact ⟨k + 1, by omega, by go_num, by rw [HV.out], by simp [go_sem, *], by simp; omega, (by (repeat (first | (with_reducible exact Below.refl _ _) | (with_reducible assumption) | (with_reducible refine Below.drew ?_) | (with_reducible refine below_drewN ?_ _) | ((with_reducible refine Below.setCell ?_ ?_ _); rotate_left; focus (first | (simp; done) | omega | (simp; omega))) | ((with_reducible refine Below.alloc ?_ ?_ _); rotate_left; focus (first | exact Nat.le_refl _ | omega | (simp; done) | (simp; omega))))))⟩
                  case measure => simp [intOf]; omega
                · have HV := Lib.hid (show ruBest R name mo jo (k + 1) = some k by rw [hst]; simp [ruHit, t1, t2, t3, t4, t5])
                  clear hst hlt3
                  go_wp2_with fail
                  go_quiet (fail)
                  go_wp2_with fail
                  go_roundw
                  case rel => exact ⟨k + 1, by omega, by go_num, by rw [HV.out], by simp [go_sem, *], by simp; omega, (by (repeat (first | (with_reducible exact Below.refl _ _) | (with_reducible assumption) | (with_reducible refine Below.drew ?_) | (with_reducible refine below_drewN ?_ _) | ((with_reducible refine Below.setCell ?_ ?_ _); rotate_left; focus (first | (simp; done) | omega | (simp; omega))) | ((with_reducible refine Below.alloc ?_ ?_ _); rotate_left; focus (first | exact Nat.le_refl _ | omega | (simp; done) | (simp; omega))))))⟩
                  case measure => simp [intOf]; omega
    · obtain rfl : k = m := by omega
      cases hb : bookB k R
      · have BO := fun (v : World) (hv : RdRu v v.heap.size A k R) => iBookOk v A k c R hv hmc hcx HN.out
        rw [hb] at BO
        have HF := Lib.hid (show V = -1 by rw [HV0.out, ruleForL, hb]; rfl)
        clear HV0
        go_wp2_with fail
        refine (BO _ ((h.below hbr).more hs1)).mono ?_
        rintro e w5 ⟨rfl, hb5⟩
        go_wp2_with fail
        go_ret
        exact ⟨ret_int HF.out.symm, hbr.trans (hb5.mono hs1)⟩
      · have BO := fun (v : World) (hv : RdRu v v.heap.size A k R) => iBookOk v A k c R hv hmc hcx HN.out
        rw [hb] at BO
        have HF := Lib.hid (show V = ruNo (ruBest R name mo jo k) by rw [HV0.out, ruleForL, hb]; rfl)
        clear HV0
        go_wp2_with fail
        refine (BO _ ((h.below hbr).more hs1)).mono ?_
        rintro e w5 ⟨rfl, hb5⟩
        go_wp2_with fail
        go_ret
        exact ⟨ret_int HF.out.symm, hbr.trans (hb5.mono hs1)⟩

set_option maxRecDepth 8000 in
set_option maxHeartbeats 6400000 in
theorem sFor (w : World) (A : Option Addr) (m c : Nat) (R : Nat → Rn) (name mo jo : Int) (h : RdRu w w.heap.size A m R) :
    Calls Try.prog 66 #[.agg #[.slice A m c], .int .i64 name, .int .i64 mo, .int .i64 jo] w fun e w' => e = .returned (.int .i64 (ruNo (ruBest R name mo jo m))) ∧ Below w.heap.size w w' := by
  have hmx := h.1
  have hbx : Below w.heap.size w (w.alloc (.cells #[.slice A m c] 37)) := (Below.refl _ _).alloc (Nat.le_refl _) _
  go_enter Try.func66, Try.ntmps66
  go_wp2_with fail
  go_loopw [9, 10] (fun q i wr => ∃ k : Nat, k ≤ m ∧ i = .int .i64 k ∧ q = .int .i64 (ruNo (ruBest R name mo jo k)) ∧ wr.cell? ⟨w.heap.size, 0, none⟩ = some (.slice A m c) ∧ w.heap.size < wr.heap.size ∧ Below w.heap.size w wr) (fun _ i _ => m - (intOf i).toNat)
  case atStart => exact ⟨0, Nat.zero_le _, rfl, rfl, by simp [go_sem], by simp, hbx⟩
  case round =>
    clear hbx
    obtain ⟨k, hk, rfl, rfl, hbox, hzb, hbr⟩ := hrel
    have hs1 := hbr.size
    by_cases hlt : k < m
    · have hrd := (h.below hbr).2
      obtain ⟨⟨b, off, rfl, hbB, h0, h1, h2, h3, h4, h5, h6⟩, -⟩ := hrd k hlt
      have hlt2 : (k : Int) < m := by omega
      have hb1 : b < wr.heap.size := by omega
      have hne : ¬ b = wr.heap.size := by omega
      have hne2 : ¬ w.heap.size = wr.heap.size := by omega
      have hlt3 : ∀ j, ruBest R name mo jo k = some j → j < k := fun j e => ruBest_lt e
      have hst : ruBest R name mo jo (k + 1) = if ruHit (R k).s name mo jo && (match ruBest R name mo jo k with | none => true | some j => decide ((R j).s.ra < (R k).s.ra)) then some k else ruBest R name mo jo k := rfl
      obtain ⟨Q, hQ⟩ : ∃ Q, Q = ruBest R name mo jo k := ⟨_, rfl⟩
      rw [← hQ] at hlt3 hst ⊢
      clear hQ h
      cases t1 : (R k).s.nm == name
      · have HV := Lib.hid (show ruBest R name mo jo (k + 1) = Q by rw [hst]; simp [ruHit, t1])
        clear hst hlt3
        clear hrd
        go_wp2_with fail
        go_quiet (fail)
        go_wp2_with fail
        go_roundw
        case rel => exact ⟨k + 1, by omega, by go_num, by rw [HV.out], by simp [go_sem, *], by simp; omega, (by (repeat (first | (with_reducible exact Below.refl _ _) | (with_reducible assumption) | (with_reducible refine Below.drew ?_) | (with_reducible refine below_drewN ?_ _) | ((with_reducible refine Below.setCell ?_ ?_ _); rotate_left; focus (first | (simp; done) | omega | (simp; omega))) | ((with_reducible refine Below.alloc ?_ ?_ _); rotate_left; focus (first | exact Nat.le_refl _ | omega | (simp; done) | (simp; omega))))))⟩
        case measure => simp [intOf]; omega
      · skip
        cases t2 : decide ((R k).s.fr ≤ mo)
        · have HV := Lib.hid (show ruBest R name mo jo (k + 1) = Q by rw [hst]; simp [ruHit, t1, t2])
          clear hst hlt3
          clear hrd
          go_wp2_with fail
          go_quiet (fail)
          go_wp2_with fail
          go_roundw
          case rel => exact ⟨k + 1, by omega, by go_num, by rw [HV.out], by simp [go_sem, *], by simp; omega, (by (repeat (first | (with_reducible exact Below.refl _ _) | (with_reducible assumption) | (with_reducible refine Below.drew ?_) | (with_reducible refine below_drewN ?_ _) | ((with_reducible refine Below.setCell ?_ ?_ _); rotate_left; focus (first | (simp; done) | omega | (simp; omega))) | ((with_reducible refine Below.alloc ?_ ?_ _); rotate_left; focus (first | exact Nat.le_refl _ | omega | (simp; done) | (simp; omega))))))⟩
          case measure => simp [intOf]; omega
        · skip
          cases t3 : decide (mo < (R k).s.to)
          · have HV := Lib.hid (show ruBest R name mo jo (k + 1) = Q by rw [hst]; simp [ruHit, t1, t2, t3])
            clear hst hlt3
            clear hrd
            go_wp2_with fail
            go_quiet (fail)
            go_wp2_with fail
            go_roundw
            case rel => exact ⟨k + 1, by omega, by go_num, by rw [HV.out], by simp [go_sem, *], by simp; omega, (by (repeat (first | (with_reducible exact Below.refl _ _) | (with_reducible assumption) | (with_reducible refine Below.drew ?_) | (with_reducible refine below_drewN ?_ _) | ((with_reducible refine Below.setCell ?_ ?_ _); rotate_left; focus (first | (simp; done) | omega | (simp; omega))) | ((with_reducible refine Below.alloc ?_ ?_ _); rotate_left; focus (first | exact Nat.le_refl _ | omega | (simp; done) | (simp; omega))))))⟩
            case measure => simp [intOf]; omega
          · skip
            cases t4 : decide (jo < (R k).s.jo)
            · have HV := Lib.hid (show ruBest R name mo jo (k + 1) = Q by rw [hst]; simp [ruHit, t1, t2, t3, t4])
              clear hst hlt3
              clear hrd
              go_wp2_with fail
              go_quiet (fail)
              go_wp2_with fail
              go_roundw
              case rel => exact ⟨k + 1, by omega, by go_num, by rw [HV.out], by simp [go_sem, *], by simp; omega, (by (repeat (first | (with_reducible exact Below.refl _ _) | (with_reducible assumption) | (with_reducible refine Below.drew ?_) | (with_reducible refine below_drewN ?_ _) | ((with_reducible refine Below.setCell ?_ ?_ _); rotate_left; focus (first | (simp; done) | omega | (simp; omega))) | ((with_reducible refine Below.alloc ?_ ?_ _); rotate_left; focus (first | exact Nat.le_refl _ | omega | (simp; done) | (simp; omega))))))⟩
              case measure => simp [intOf]; omega
            · skip
              cases Q with
              | none =>
                simp only [ruNo]
                have HV := Lib.hid (show ruBest R name mo jo (k + 1) = some k by rw [hst]; simp [ruHit, t1, t2, t3, t4])
                clear hst hlt3
                clear hrd
                go_wp2_with fail
                go_quiet (fail)
                go_wp2_with fail
                go_roundw
                case rel => exact ⟨k + 1, by omega, by go_num, by rw [HV.out], by simp [go_sem, *], by simp; omega, (by (repeat (first | (with_reducible exact Below.refl _ _) | (with_reducible assumption) | (with_reducible refine Below.drew ?_) | (with_reducible refine below_drewN ?_ _) | ((with_reducible refine Below.setCell ?_ ?_ _); rotate_left; focus (first | (simp; done) | omega | (simp; omega))) | ((with_reducible refine Below.alloc ?_ ?_ _); rotate_left; focus (first | exact Nat.le_refl _ | omega | (simp; done) | (simp; omega))))))⟩
                case measure => simp [intOf]; omega
              | some j =>
                simp only [ruNo]
                have hjk := hlt3 j rfl
                obtain ⟨⟨b', off', he', -, g0, g1, g2, g3, g4, g5, g6⟩, -⟩ := hrd j (by omega)
                obtain ⟨rfl, rfl⟩ : b = b' ∧ off = off' := by injection he' with e; injection e with e1 e2 e3; exact ⟨e1, e2⟩
                clear he' hrd g0 g1 g2 g3 g5 g6
                have hj1 : (j : Int) < m := by omega
                have hj2 : ¬ (j : Int) < 0 := by omega
                have hj3 : j < m := by omega
                cases t5 : decide ((R j).s.ra < (R k).s.ra)
                · have HV := Lib.hid (show ruBest R name mo jo (k + 1) = some j by rw [hst]; simp [ruHit, t1, t2, t3, t4, t5])
                  clear hst hlt3
                  go_wp2_with fail
                  go_quiet (fail)
                  go_wp2_with fail
                  go_roundw
                  case rel => exact ⟨k + 1, by omega, by go_num, by rw [HV.out], by simp [go_sem, *], by simp; omega, (by (repeat (first | (with_reducible exact Below.refl _ _) | (with_reducible assumption) | (with_reducible refine Below.drew ?_) | (with_reducible refine below_drewN ?_ _) | ((with_reducible refine Below.setCell ?_ ?_ _); rotate_left; focus (first | (simp; done) | omega | (simp; omega))) | ((with_reducible refine Below.alloc ?_ ?_ _); rotate_left; focus (first | exact Nat.le_refl _ | omega | (simp; done) | (simp; omega))))))⟩
                  case measure => simp [intOf]; omega
                · have HV := Lib.hid (show ruBest R name mo jo (k + 1) = some k by rw [hst]; simp [ruHit, t1, t2, t3, t4, t5])
                  clear hst hlt3
                  go_wp2_with fail
                  go_quiet (fail)
                  go_wp2_with fail
                  go_roundw
                  case rel => exact ⟨k + 1, by omega, by go_num, by rw [HV.out], by simp [go_sem, *], by simp; omega, (by (repeat (first | (with_reducible exact Below.refl _ _) | (with_reducible assumption) | (with_reducible refine Below.drew ?_) | (with_reducible refine below_drewN ?_ _) | ((with_reducible refine Below.setCell ?_ ?_ _); rotate_left; focus (first | (simp; done) | omega | (simp; omega))) | ((with_reducible refine Below.alloc ?_ ?_ _); rotate_left; focus (first | exact Nat.le_refl _ | omega | (simp; done) | (simp; omega))))))⟩
                  case measure => simp [intOf]; omega
    · obtain rfl : k = m := by omega
      go_wp2_with fail
      go_ret
      exact ⟨rfl, hbr⟩

set_option maxHeartbeats 800000 in
theorem sRuleFor (w : World) (A : Option Addr) (m c : Nat) (R : Nat → Rn) (name mo jo : Int) (h : RdRu w w.heap.size A m R) (hmc : m ≤ c) (hcx : c ≤ 9223372036854775807) (hn : ∀ i, i < m → (R i).n ≤ 1099511627776) :
    Calls Try.prog 31 #[.agg #[.slice A m c], .int .i64 name, .int .i64 mo, .int .i64 jo] w fun e w' => e = .returned (.int .i64 (ruleForL m R name mo jo)) ∧ Below w.heap.size w w' := by
  have hbx : Below w.heap.size w (w.alloc (.cells #[.slice A m c] 37)) := (Below.refl _ _).alloc (Nat.le_refl _) _
  have BO := fun (v : World) (hv : RdRu v v.heap.size A m R) => sBookOk v A m c R hv hmc hcx hn
  cases hb : bookB m R
  · rw [ruleForL, hb, if_neg (by simp)]
    rw [hb] at BO
    clear hn
    go_enter Try.func31, Try.ntmps31
    go_wp2_with fail
    refine (BO _ ((h.below hbx).more (by simp))).mono ?_
    rintro e w1 ⟨rfl, hb1⟩
    go_wp2_with fail
    go_ret
    exact ⟨rfl, hbx.trans (hb1.mono (by simp))⟩
  · rw [ruleForL, hb, if_pos rfl]
    rw [hb] at BO
    clear hn
    go_enter Try.func31, Try.ntmps31
    go_wp2_with fail
    refine (BO _ ((h.below hbx).more (by simp))).mono ?_
    rintro e w1 ⟨rfl, hb1⟩
    have c0 : w1.cell? ⟨w.heap.size, 0, none⟩ = some (.slice A m c) := by rw [(keepc hb1).1 _ _ (by simp)]; simp [go_sem]
    have hB1 := hbx.trans (hb1.mono (by simp))
    clear hb1
    go_wp2_with fail
    refine (sFor w1 A m c R name mo jo ((h.below hB1).more hB1.size)).mono ?_
    rintro e w2 ⟨rfl, hb2⟩
    go_wp2_with fail
    go_ret
    exact ⟨rfl, hB1.trans (hb2.mono hB1.size)⟩
end Go.Proofs.Ytjnckhdmaebfdaa
