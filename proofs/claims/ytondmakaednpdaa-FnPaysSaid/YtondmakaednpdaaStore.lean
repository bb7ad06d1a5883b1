/- StoreOk of the program and of the reference. Conditions: the facts can be read. -/
import Derived.Test.YtondmakaednpdaaVAt
import Derived.Test.YtondmakaednpdaaKlass
namespace Go.Proofs.Ytondmakaednpdaa
open Go.RowKit

set_option maxHeartbeats 400000 in
theorem iMonthOk (m : Int) (w : World) :
    Calls Try.prog 67 #[.int .i64 m] w fun e w' => e = .returned (.bool (inB m 0 3599)) ∧ w = w' := by
  go_enter Try.func67, Try.ntmps67
  go_wp2_with fail
  refine (within_any _ _ _ _).mono ?_
  rintro e w' ⟨rfl, rfl⟩
  go_wp2_with fail
  go_ret
  exact ⟨rfl, rfl⟩

set_option maxHeartbeats 400000 in
theorem sMonthOk (m : Int) (w : World) :
    Calls Try.prog 74 #[.int .i64 m] w fun e w' => e = .returned (.bool (inB m 0 3599)) ∧ w = w' := by
  go_enter Try.func74, Try.ntmps74
  go_wp2_with fail
  refine (l01In_any _ _ _ _).mono ?_
  rintro e w' ⟨rfl, rfl⟩
  go_wp2_with fail
  go_ret
  exact ⟨rfl, rfl⟩

def factB (s : Fa) : Bool := inB s.k 1 50 && (spanB s.f s.t && (inB s.n 0 3599 && inB s.v (-1000000000) 1000000000))
def stGood (L : Nat → Fa) (i : Nat) : Bool := factB (L i) && (i == 0 || !decide ((L i).n < (L (i - 1)).n))
def allUp (P : Nat → Bool) : Nat → Bool
  | 0 => true
  | k + 1 => allUp P k && P k
theorem allUp_at {P : Nat → Bool} : ∀ {n : Nat}, allUp P n = true → ∀ i, i < n → P i = true
  | 0, _, i, hi => by omega
  | n + 1, h, i, hi => by
    simp only [allUp, Bool.and_eq_true] at h
    by_cases e : i = n
    · subst e; exact h.2
    · exact allUp_at h.1 i (by omega)
theorem allUp_mk {P : Nat → Bool} : ∀ {n : Nat}, (∀ i, i < n → P i = true) → allUp P n = true
  | 0, _ => rfl
  | n + 1, h => by
    simp only [allUp, Bool.and_eq_true]
    exact ⟨allUp_mk fun i hi => h i (by omega), h n (by omega)⟩
theorem allUp_no {P : Nat → Bool} {n i : Nat} (h : i < n) (hz : P i = false) : allUp P n = false := by
  cases e : allUp P n with
  | false => rfl
  | true => have := allUp_at e i h; rw [hz] at this; cases this
def stOk (n : Nat) (L : Nat → Fa) : Bool := allUp (stGood L) n && decide (n ≤ 200)
theorem stOk_no {n k : Nat} {L : Nat → Fa} (h : k < n) (hz : stGood L k = false) : stOk n L = false := by rw [stOk, allUp_no h hz]; rfl

set_option maxHeartbeats 1600000 in
theorem iFactOk (s : Fa) (w : World) :
    Calls Try.prog 62 #[s.val] w fun e w' => e = .returned (.bool (factB s)) ∧ Below w.heap.size w w' := by
  obtain ⟨v, hv⟩ : ∃ v, v = factB s := ⟨_, rfl⟩
  rw [← hv]
  have HV := Lib.hid hv
  clear hv
  go_enter Try.func62, Try.ntmps62
  go_wp2_with (first | (go_at_call 51; refine (within_any _ _ _ _).mono ?_; rintro e w' ⟨rfl, rfl⟩) | (go_at_call 77; refine (isSpan_any _ _ _).mono ?_; rintro e w' ⟨rfl, rfl⟩) | (go_at_call 67; refine (iMonthOk _ _).mono ?_; rintro e w' ⟨rfl, rfl⟩))
  all_goals
    go_ret
    refine ⟨ret_bool ?_, (Below.refl _ _).alloc (Nat.le_refl _) _⟩
    rw [HV.out]
    clear HV
    simp_all [factB]

set_option maxHeartbeats 1600000 in
theorem sFactOk (s : Fa) (w : World) :
    Calls Try.prog 64 #[s.val] w fun e w' => e = .returned (.bool (factB s)) ∧ Below w.heap.size w w' := by
  obtain ⟨v, hv⟩ : ∃ v, v = factB s := ⟨_, rfl⟩
  rw [← hv]
  have HV := Lib.hid hv
  clear hv
  go_enter Try.func64, Try.ntmps64
  go_wp2_with (first | (go_at_call 59; refine (l01In_any _ _ _ _).mono ?_; rintro e w' ⟨rfl, rfl⟩) | (go_at_call 74; refine (sMonthOk _ _).mono ?_; rintro e w' ⟨rfl, rfl⟩))
  all_goals
    go_ret
    refine ⟨ret_bool ?_, (Below.refl _ _).alloc (Nat.le_refl _) _⟩
    rw [HV.out]
    clear HV
    simp only [factB, spanB]; simp_all <;> (intros; omega)

set_option maxRecDepth 4000 in
set_option maxHeartbeats 6400000 in
theorem iStoreOk (w : World) (A : Option Addr) (n c : Nat) (L : Nat → Fa) (h : RdFa w w.heap.size A n L) :
    Calls Try.prog 36 #[.agg #[.slice A n c]] w fun e w' => e = .returned (.bool (stOk n L)) ∧ Below w.heap.size w w' := by
  have hn := h.1
  have hbb : Below w.heap.size w (w.alloc (.cells #[.slice A n c] 26)) := (Below.refl _ _).alloc (Nat.le_refl _) _
  go_enter Try.func36, Try.ntmps36
  go_wp2_with fail
  go_loopw [8] (fun i wr => ∃ k : Nat, k ≤ n ∧ i = .int .i64 k ∧ Hid (allUp (stGood L) k = true) ∧ wr.cell? ⟨w.heap.size, 0, none⟩ = some (.slice A n c) ∧ w.heap.size < wr.heap.size ∧ Below w.heap.size w wr) (fun i _ => n - (intOf i).toNat)
  case atStart => exact ⟨0, Nat.zero_le _, rfl, Lib.hid rfl, by simp [go_sem], by simp, hbb⟩
  case round =>
    obtain ⟨k, hk, rfl, hall, hbox, hzb, hbr⟩ := hrel
    have hs1 := hbr.size
    by_cases hlt : k < n
    · have hh := (h.below hbr).2
      obtain ⟨b, off, rfl, hbB, h0, h1, h2, h3, h4⟩ := hh k hlt
      have hb1 : b < wr.heap.size := by omega
      have hne : ¬ b = wr.heap.size := by omega
      have hne2 : ¬ b = w.heap.size := by omega
      have hne3 : ¬ w.heap.size = wr.heap.size := by omega
      clear h
      cases k with
      | zero =>
        simp only [Nat.zero_mul, Nat.add_zero] at h0 h1 h2 h3 h4
        have hz0 : ((0 : Nat) : Int) = 0 := rfl
        rw [hz0]
        have hz1 : (0 : Int) < n := by omega
        have hz2 : 0 < n := hlt
        cases e1 : factB (L 0)
        · obtain ⟨S, hSd⟩ : ∃ S : World → Prop, S = (fun w' => w'.cell? ⟨wr.heap.size, 0, none⟩ = some (.int .i64 (L (0)).k) ∧ w'.cell? ⟨wr.heap.size, 1, none⟩ = some (.int .i64 (L (0)).f) ∧ w'.cell? ⟨wr.heap.size, 2, none⟩ = some (.int .i64 (L (0)).t) ∧ w'.cell? ⟨wr.heap.size, 3, none⟩ = some (.int .i64 (L (0)).n) ∧ w'.cell? ⟨wr.heap.size, 4, none⟩ = some (.int .i64 (L (0)).v) ∧ w'.cell? ⟨w.heap.size, 0, none⟩ = some (.slice (some ⟨b, off, none⟩) n c) ∧ wr.heap.size < w'.heap.size ∧ w.heap.size < w'.heap.size ∧ b < w'.heap.size ∧ Below w.heap.size w w') := ⟨_, rfl⟩
          have hS0 : S (wr.alloc (.cells #[.int .i64 (L (0)).k, .int .i64 (L (0)).f, .int .i64 (L (0)).t, .int .i64 (L (0)).n, .int .i64 (L (0)).v] 71)).drew := by rw [hSd]; (first | (with_reducible assumption) | (refine ⟨?_, ?_, ?_, ?_, ?_, ?_, ?_, ?_, ?_, ?_⟩ <;> first | (with_reducible assumption) | omega | (simp [go_sem, *]; done) | (simp [*]; omega) | ((repeat (first | (with_reducible exact Below.refl _ _) | (with_reducible assumption) | (with_reducible refine Below.drew ?_) | (with_reducible refine below_drewN ?_ _) | ((with_reducible refine Below.setCell ?_ ?_ _); rotate_left; focus (first | (simp; done) | omega | (simp; omega))) | ((with_reducible refine Below.alloc ?_ ?_ _); rotate_left; focus (first | exact Nat.le_refl _ | omega | (simp; done) | (simp; omega))))); first | done | (simp [*]; done))))
          have hkeep : ∀ (u u' : World), S u → Below u.heap.size u u' → S u' := by
            intro u u' hu hb
            rw [hSd] at hu ⊢
            obtain ⟨q0, q1, q2, q3, q4, q5, q6, q7, q8, q9⟩ := hu
            obtain ⟨hc, -⟩ := keepc hb
            have hs := hb.size
            refine ⟨?_, ?_, ?_, ?_, ?_, ?_, ?_, ?_, ?_, ?_⟩ <;> first | (rw [hc _ _ (by omega)]; assumption) | omega | exact Below.trans (by assumption) (hb.mono (by omega))
          have hSend : ∀ u, S u → ((fun w' => w'.cell? ⟨wr.heap.size, 0, none⟩ = some (.int .i64 (L (0)).k) ∧ w'.cell? ⟨wr.heap.size, 1, none⟩ = some (.int .i64 (L (0)).f) ∧ w'.cell? ⟨wr.heap.size, 2, none⟩ = some (.int .i64 (L (0)).t) ∧ w'.cell? ⟨wr.heap.size, 3, none⟩ = some (.int .i64 (L (0)).n) ∧ w'.cell? ⟨wr.heap.size, 4, none⟩ = some (.int .i64 (L (0)).v) ∧ w'.cell? ⟨w.heap.size, 0, none⟩ = some (.slice (some ⟨b, off, none⟩) n c) ∧ wr.heap.size < w'.heap.size ∧ w.heap.size < w'.heap.size ∧ b < w'.heap.size ∧ Below w.heap.size w w')) u := by intro u hu; rw [hSd] at hu; exact hu
          have k0 : ∀ x : InClass S, x.w.cell? ⟨wr.heap.size, 0, none⟩ = some (.int .i64 (L (0)).k) := by intro x; have h := hSend _ x.h; exact h.1
          have k1 : ∀ x : InClass S, x.w.cell? ⟨wr.heap.size, 1, none⟩ = some (.int .i64 (L (0)).f) := by intro x; have h := hSend _ x.h; exact h.2.1
          have k2 : ∀ x : InClass S, x.w.cell? ⟨wr.heap.size, 2, none⟩ = some (.int .i64 (L (0)).t) := by intro x; have h := hSend _ x.h; exact h.2.2.1
          have k3 : ∀ x : InClass S, x.w.cell? ⟨wr.heap.size, 3, none⟩ = some (.int .i64 (L (0)).n) := by intro x; have h := hSend _ x.h; exact h.2.2.2.1
          have k4 : ∀ x : InClass S, x.w.cell? ⟨wr.heap.size, 4, none⟩ = some (.int .i64 (L (0)).v) := by intro x; have h := hSend _ x.h; exact h.2.2.2.2.1
          have k5 : ∀ x : InClass S, x.w.cell? ⟨w.heap.size, 0, none⟩ = some (.slice (some ⟨b, off, none⟩) n c) := by intro x; have h := hSend _ x.h; exact h.2.2.2.2.2.1
          have FO := fun v => iFactOk (L (0)) v
          rw [e1] at FO
          have hne0 : Nonempty (InClass S) := ⟨⟨_, hS0⟩⟩
          clear hSd
          go_wp2_with fail
          refine wp_region_class (S := S) (by kernel_rfl) (by kernel_rfl) hS0 ?_
          repeat (go_big_quiet_step ((go_at_call 62; exact class_call (FO _) hkeep)))
          refine wpQuiet_nil ?_
          rintro w5 ⟨x5, hx5⟩
          have hS5 := hSend w5 (by rw [hx5]; exact x5.h)
          clear hx5 x5
          go_wp2_with fail
          go_ret
          exact ⟨ret_bool (stOk_no hlt (by simp [stGood, e1])).symm, hS5.2.2.2.2.2.2.2.2.2⟩
        · obtain ⟨S, hSd⟩ : ∃ S : World → Prop, S = (fun w' => w'.cell? ⟨wr.heap.size, 0, none⟩ = some (.int .i64 (L (0)).k) ∧ w'.cell? ⟨wr.heap.size, 1, none⟩ = some (.int .i64 (L (0)).f) ∧ w'.cell? ⟨wr.heap.size, 2, none⟩ = some (.int .i64 (L (0)).t) ∧ w'.cell? ⟨wr.heap.size, 3, none⟩ = some (.int .i64 (L (0)).n) ∧ w'.cell? ⟨wr.heap.size, 4, none⟩ = some (.int .i64 (L (0)).v) ∧ w'.cell? ⟨w.heap.size, 0, none⟩ = some (.slice (some ⟨b, off, none⟩) n c) ∧ wr.heap.size < w'.heap.size ∧ w.heap.size < w'.heap.size ∧ b < w'.heap.size ∧ Below w.heap.size w w') := ⟨_, rfl⟩
          have hS0 : S (wr.alloc (.cells #[.int .i64 (L (0)).k, .int .i64 (L (0)).f, .int .i64 (L (0)).t, .int .i64 (L (0)).n, .int .i64 (L (0)).v] 71)).drew := by rw [hSd]; (first | (with_reducible assumption) | (refine ⟨?_, ?_, ?_, ?_, ?_, ?_, ?_, ?_, ?_, ?_⟩ <;> first | (with_reducible assumption) | omega | (simp [go_sem, *]; done) | (simp [*]; omega) | ((repeat (first | (with_reducible exact Below.refl _ _) | (with_reducible assumption) | (with_reducible refine Below.drew ?_) | (with_reducible refine below_drewN ?_ _) | ((with_reducible refine Below.setCell ?_ ?_ _); rotate_left; focus (first | (simp; done) | omega | (simp; omega))) | ((with_reducible refine Below.alloc ?_ ?_ _); rotate_left; focus (first | exact Nat.le_refl _ | omega | (simp; done) | (simp; omega))))); first | done | (simp [*]; done))))
          have hkeep : ∀ (u u' : World), S u → Below u.heap.size u u' → S u' := by
            intro u u' hu hb
            rw [hSd] at hu ⊢
            obtain ⟨q0, q1, q2, q3, q4, q5, q6, q7, q8, q9⟩ := hu
            obtain ⟨hc, -⟩ := keepc hb
            have hs := hb.size
            refine ⟨?_, ?_, ?_, ?_, ?_, ?_, ?_, ?_, ?_, ?_⟩ <;> first | (rw [hc _ _ (by omega)]; assumption) | omega | exact Below.trans (by assumption) (hb.mono (by omega))
          have hSend : ∀ u, S u → ((fun w' => w'.cell? ⟨wr.heap.size, 0, none⟩ = some (.int .i64 (L (0)).k) ∧ w'.cell? ⟨wr.heap.size, 1, none⟩ = some (.int .i64 (L (0)).f) ∧ w'.cell? ⟨wr.heap.size, 2, none⟩ = some (.int .i64 (L (0)).t) ∧ w'.cell? ⟨wr.heap.size, 3, none⟩ = some (.int .i64 (L (0)).n) ∧ w'.cell? ⟨wr.heap.size, 4, none⟩ = some (.int .i64 (L (0)).v) ∧ w'.cell? ⟨w.heap.size, 0, none⟩ = some (.slice (some ⟨b, off, none⟩) n c) ∧ wr.heap.size < w'.heap.size ∧ w.heap.size < w'.heap.size ∧ b < w'.heap.size ∧ Below w.heap.size w w')) u := by intro u hu; rw [hSd] at hu; exact hu
          have k0 : ∀ x : InClass S, x.w.cell? ⟨wr.heap.size, 0, none⟩ = some (.int .i64 (L (0)).k) := by intro x; have h := hSend _ x.h; exact h.1
          have k1 : ∀ x : InClass S, x.w.cell? ⟨wr.heap.size, 1, none⟩ = some (.int .i64 (L (0)).f) := by intro x; have h := hSend _ x.h; exact h.2.1
          have k2 : ∀ x : InClass S, x.w.cell? ⟨wr.heap.size, 2, none⟩ = some (.int .i64 (L (0)).t) := by intro x; have h := hSend _ x.h; exact h.2.2.1
          have k3 : ∀ x : InClass S, x.w.cell? ⟨wr.heap.size, 3, none⟩ = some (.int .i64 (L (0)).n) := by intro x; have h := hSend _ x.h; exact h.2.2.2.1
          have k4 : ∀ x : InClass S, x.w.cell? ⟨wr.heap.size, 4, none⟩ = some (.int .i64 (L (0)).v) := by intro x; have h := hSend _ x.h; exact h.2.2.2.2.1
          have k5 : ∀ x : InClass S, x.w.cell? ⟨w.heap.size, 0, none⟩ = some (.slice (some ⟨b, off, none⟩) n c) := by intro x; have h := hSend _ x.h; exact h.2.2.2.2.2.1
          have FO := fun v => iFactOk (L (0)) v
          rw [e1] at FO
          have hne0 : Nonempty (InClass S) := ⟨⟨_, hS0⟩⟩
          clear hSd
          go_wp2_with fail
          refine wp_region_class (S := S) (by kernel_rfl) (by kernel_rfl) hS0 ?_
          repeat (go_big_quiet_step ((go_at_call 62; exact class_call (FO _) hkeep)))
          refine wpQuiet_nil ?_
          rintro w5 ⟨x5, hx5⟩
          have hS5 := hSend w5 (by rw [hx5]; exact x5.h)
          clear hx5 x5
          go_wp2_with fail
          go_roundw
          case rel => exact ⟨0 + 1, by omega, by go_num, (by have h := hall.out; exact Lib.hid (by rw [allUp, h]; simp [stGood, e1])), hS5.2.2.2.2.2.1, hS5.2.2.2.2.2.2.2.1, hS5.2.2.2.2.2.2.2.2.2⟩
          case measure => simp [intOf]; omega
      | succ m =>
        obtain ⟨b', off', he', -, g0, g1, g2, g3, g4⟩ := hh m (by omega)
        clear hh
        obtain ⟨rfl, rfl⟩ : b = b' ∧ off = off' := by injection he' with e; injection e with e1 e2 e3; exact ⟨e1, e2⟩
        clear he' g0 g1 g2 g4
        have hw2 : IntKind.i64.wrap (m : Int) = m := IntWalk.i64_in _ ⟨by omega, by omega⟩
        have hw1 : IntKind.i64.wrap ((m : Int) + 1 - 1) = m := by rw [Int.add_sub_cancel]; exact hw2
        have hpos : (0 : Int) < (m : Int) + 1 := by omega
        have hi1 : (m : Int) < n := by omega
        have hi2 : (m : Int) + 1 < n := by omega
        have hi3 : m < n := by omega
        have hi4 : (0 : Int) ≤ (m : Int) + 1 := by omega
        have hi5 : ((m : Int) + 1).toNat = m + 1 := by omega
        cases e1 : factB (L (m + 1))
        · obtain ⟨S, hSd⟩ : ∃ S : World → Prop, S = (fun w' => w'.cell? ⟨wr.heap.size, 0, none⟩ = some (.int .i64 (L (m + 1)).k) ∧ w'.cell? ⟨wr.heap.size, 1, none⟩ = some (.int .i64 (L (m + 1)).f) ∧ w'.cell? ⟨wr.heap.size, 2, none⟩ = some (.int .i64 (L (m + 1)).t) ∧ w'.cell? ⟨wr.heap.size, 3, none⟩ = some (.int .i64 (L (m + 1)).n) ∧ w'.cell? ⟨wr.heap.size, 4, none⟩ = some (.int .i64 (L (m + 1)).v) ∧ w'.cell? ⟨w.heap.size, 0, none⟩ = some (.slice (some ⟨b, off, none⟩) n c) ∧ w'.cell? ⟨b, off + m * 5 + 3, none⟩ = some (.int .i64 (L m).n) ∧ wr.heap.size < w'.heap.size ∧ w.heap.size < w'.heap.size ∧ b < w'.heap.size ∧ Below w.heap.size w w') := ⟨_, rfl⟩
          have hS0 : S (wr.alloc (.cells #[.int .i64 (L (m + 1)).k, .int .i64 (L (m + 1)).f, .int .i64 (L (m + 1)).t, .int .i64 (L (m + 1)).n, .int .i64 (L (m + 1)).v] 71)).drew := by rw [hSd]; (first | (with_reducible assumption) | (refine ⟨?_, ?_, ?_, ?_, ?_, ?_, ?_, ?_, ?_, ?_, ?_⟩ <;> first | (with_reducible assumption) | omega | (simp [go_sem, *]; done) | (simp [*]; omega) | ((repeat (first | (with_reducible exact Below.refl _ _) | (with_reducible assumption) | (with_reducible refine Below.drew ?_) | (with_reducible refine below_drewN ?_ _) | ((with_reducible refine Below.setCell ?_ ?_ _); rotate_left; focus (first | (simp; done) | omega | (simp; omega))) | ((with_reducible refine Below.alloc ?_ ?_ _); rotate_left; focus (first | exact Nat.le_refl _ | omega | (simp; done) | (simp; omega))))); first | done | (simp [*]; done))))
          have hkeep : ∀ (u u' : World), S u → Below u.heap.size u u' → S u' := by
            intro u u' hu hb
            rw [hSd] at hu ⊢
            obtain ⟨q0, q1, q2, q3, q4, q5, q6, q7, q8, q9, q10⟩ := hu
            obtain ⟨hc, -⟩ := keepc hb
            have hs := hb.size
            refine ⟨?_, ?_, ?_, ?_, ?_, ?_, ?_, ?_, ?_, ?_, ?_⟩ <;> first | (rw [hc _ _ (by omega)]; assumption) | omega | exact Below.trans (by assumption) (hb.mono (by omega))
          have hSend : ∀ u, S u → ((fun w' => w'.cell? ⟨wr.heap.size, 0, none⟩ = some (.int .i64 (L (m + 1)).k) ∧ w'.cell? ⟨wr.heap.size, 1, none⟩ = some (.int .i64 (L (m + 1)).f) ∧ w'.cell? ⟨wr.heap.size, 2, none⟩ = some (.int .i64 (L (m + 1)).t) ∧ w'.cell? ⟨wr.heap.size, 3, none⟩ = some (.int .i64 (L (m + 1)).n) ∧ w'.cell? ⟨wr.heap.size, 4, none⟩ = some (.int .i64 (L (m + 1)).v) ∧ w'.cell? ⟨w.heap.size, 0, none⟩ = some (.slice (some ⟨b, off, none⟩) n c) ∧ w'.cell? ⟨b, off + m * 5 + 3, none⟩ = some (.int .i64 (L m).n) ∧ wr.heap.size < w'.heap.size ∧ w.heap.size < w'.heap.size ∧ b < w'.heap.size ∧ Below w.heap.size w w')) u := by intro u hu; rw [hSd] at hu; exact hu
          have k0 : ∀ x : InClass S, x.w.cell? ⟨wr.heap.size, 0, none⟩ = some (.int .i64 (L (m + 1)).k) := by intro x; have h := hSend _ x.h; exact h.1
          have k1 : ∀ x : InClass S, x.w.cell? ⟨wr.heap.size, 1, none⟩ = some (.int .i64 (L (m + 1)).f) := by intro x; have h := hSend _ x.h; exact h.2.1
          have k2 : ∀ x : InClass S, x.w.cell? ⟨wr.heap.size, 2, none⟩ = some (.int .i64 (L (m + 1)).t) := by intro x; have h := hSend _ x.h; exact h.2.2.1
          have k3 : ∀ x : InClass S, x.w.cell? ⟨wr.heap.size, 3, none⟩ = some (.int .i64 (L (m + 1)).n) := by intro x; have h := hSend _ x.h; exact h.2.2.2.1
          have k4 : ∀ x : InClass S, x.w.cell? ⟨wr.heap.size, 4, none⟩ = some (.int .i64 (L (m + 1)).v) := by intro x; have h := hSend _ x.h; exact h.2.2.2.2.1
          have k5 : ∀ x : InClass S, x.w.cell? ⟨w.heap.size, 0, none⟩ = some (.slice (some ⟨b, off, none⟩) n c) := by intro x; have h := hSend _ x.h; exact h.2.2.2.2.2.1
          have k6 : ∀ x : InClass S, x.w.cell? ⟨b, off + m * 5 + 3, none⟩ = some (.int .i64 (L m).n) := by intro x; have h := hSend _ x.h; exact h.2.2.2.2.2.2.1
          have FO := fun v => iFactOk (L (m + 1)) v
          rw [e1] at FO
          have hne0 : Nonempty (InClass S) := ⟨⟨_, hS0⟩⟩
          clear hSd
          go_wp2_with fail
          refine wp_region_class (S := S) (by kernel_rfl) (by kernel_rfl) hS0 ?_
          repeat (go_big_quiet_step ((go_at_call 62; exact class_call (FO _) hkeep)))
          refine wpQuiet_nil ?_
          rintro w5 ⟨x5, hx5⟩
          have hS5 := hSend w5 (by rw [hx5]; exact x5.h)
          clear hx5 x5
          go_wp2_with fail
          go_ret
          exact ⟨ret_bool (stOk_no hlt (by simp [stGood, e1])).symm, hS5.2.2.2.2.2.2.2.2.2.2⟩
        · cases e3 : decide ((L (m + 1)).n < (L m).n)
          · obtain ⟨S, hSd⟩ : ∃ S : World → Prop, S = (fun w' => w'.cell? ⟨wr.heap.size, 0, none⟩ = some (.int .i64 (L (m + 1)).k) ∧ w'.cell? ⟨wr.heap.size, 1, none⟩ = some (.int .i64 (L (m + 1)).f) ∧ w'.cell? ⟨wr.heap.size, 2, none⟩ = some (.int .i64 (L (m + 1)).t) ∧ w'.cell? ⟨wr.heap.size, 3, none⟩ = some (.int .i64 (L (m + 1)).n) ∧ w'.cell? ⟨wr.heap.size, 4, none⟩ = some (.int .i64 (L (m + 1)).v) ∧ w'.cell? ⟨w.heap.size, 0, none⟩ = some (.slice (some ⟨b, off, none⟩) n c) ∧ w'.cell? ⟨b, off + m * 5 + 3, none⟩ = some (.int .i64 (L m).n) ∧ wr.heap.size < w'.heap.size ∧ w.heap.size < w'.heap.size ∧ b < w'.heap.size ∧ Below w.heap.size w w') := ⟨_, rfl⟩
            have hS0 : S (wr.alloc (.cells #[.int .i64 (L (m + 1)).k, .int .i64 (L (m + 1)).f, .int .i64 (L (m + 1)).t, .int .i64 (L (m + 1)).n, .int .i64 (L (m + 1)).v] 71)).drew := by rw [hSd]; (first | (with_reducible assumption) | (refine ⟨?_, ?_, ?_, ?_, ?_, ?_, ?_, ?_, ?_, ?_, ?_⟩ <;> first | (with_reducible assumption) | omega | (simp [go_sem, *]; done) | (simp [*]; omega) | ((repeat (first | (with_reducible exact Below.refl _ _) | (with_reducible assumption) | (with_reducible refine Below.drew ?_) | (with_reducible refine below_drewN ?_ _) | ((with_reducible refine Below.setCell ?_ ?_ _); rotate_left; focus (first | (simp; done) | omega | (simp; omega))) | ((with_reducible refine Below.alloc ?_ ?_ _); rotate_left; focus (first | exact Nat.le_refl _ | omega | (simp; done) | (simp; omega))))); first | done | (simp [*]; done))))
            have hkeep : ∀ (u u' : World), S u → Below u.heap.size u u' → S u' := by
              intro u u' hu hb
              rw [hSd] at hu ⊢
              obtain ⟨q0, q1, q2, q3, q4, q5, q6, q7, q8, q9, q10⟩ := hu
              obtain ⟨hc, -⟩ := keepc hb
              have hs := hb.size
              refine ⟨?_, ?_, ?_, ?_, ?_, ?_, ?_, ?_, ?_, ?_, ?_⟩ <;> first | (rw [hc _ _ (by omega)]; assumption) | omega | exact Below.trans (by assumption) (hb.mono (by omega))
            have hSend : ∀ u, S u → ((fun w' => w'.cell? ⟨wr.heap.size, 0, none⟩ = some (.int .i64 (L (m + 1)).k) ∧ w'.cell? ⟨wr.heap.size, 1, none⟩ = some (.int .i64 (L (m + 1)).f) ∧ w'.cell? ⟨wr.heap.size, 2, none⟩ = some (.int .i64 (L (m + 1)).t) ∧ w'.cell? ⟨wr.heap.size, 3, none⟩ = some (.int .i64 (L (m + 1)).n) ∧ w'.cell? ⟨wr.heap.size, 4, none⟩ = some (.int .i64 (L (m + 1)).v) ∧ w'.cell? ⟨w.heap.size, 0, none⟩ = some (.slice (some ⟨b, off, none⟩) n c) ∧ w'.cell? ⟨b, off + m * 5 + 3, none⟩ = some (.int .i64 (L m).n) ∧ wr.heap.size < w'.heap.size ∧ w.heap.size < w'.heap.size ∧ b < w'.heap.size ∧ Below w.heap.size w w')) u := by intro u hu; rw [hSd] at hu; exact hu
            have k0 : ∀ x : InClass S, x.w.cell? ⟨wr.heap.size, 0, none⟩ = some (.int .i64 (L (m + 1)).k) := by intro x; have h := hSend _ x.h; exact h.1
            have k1 : ∀ x : InClass S, x.w.cell? ⟨wr.heap.size, 1, none⟩ = some (.int .i64 (L (m + 1)).f) := by intro x; have h := hSend _ x.h; exact h.2.1
            have k2 : ∀ x : InClass S, x.w.cell? ⟨wr.heap.size, 2, none⟩ = some (.int .i64 (L (m + 1)).t) := by intro x; have h := hSend _ x.h; exact h.2.2.1
            have k3 : ∀ x : InClass S, x.w.cell? ⟨wr.heap.size, 3, none⟩ = some (.int .i64 (L (m + 1)).n) := by intro x; have h := hSend _ x.h; exact h.2.2.2.1
            have k4 : ∀ x : InClass S, x.w.cell? ⟨wr.heap.size, 4, none⟩ = some (.int .i64 (L (m + 1)).v) := by intro x; have h := hSend _ x.h; exact h.2.2.2.2.1
            have k5 : ∀ x : InClass S, x.w.cell? ⟨w.heap.size, 0, none⟩ = some (.slice (some ⟨b, off, none⟩) n c) := by intro x; have h := hSend _ x.h; exact h.2.2.2.2.2.1
            have k6 : ∀ x : InClass S, x.w.cell? ⟨b, off + m * 5 + 3, none⟩ = some (.int .i64 (L m).n) := by intro x; have h := hSend _ x.h; exact h.2.2.2.2.2.2.1
            have FO := fun v => iFactOk (L (m + 1)) v
            rw [e1] at FO
            have hne0 : Nonempty (InClass S) := ⟨⟨_, hS0⟩⟩
            clear hSd
            go_wp2_with fail
            refine wp_region_class (S := S) (by kernel_rfl) (by kernel_rfl) hS0 ?_
            repeat (go_big_quiet_step ((go_at_call 62; exact class_call (FO _) hkeep)))
            refine wpQuiet_nil ?_
            rintro w5 ⟨x5, hx5⟩
            have hS5 := hSend w5 (by rw [hx5]; exact x5.h)
            clear hx5 x5
            go_wp2_with fail
            go_roundw
            case rel => exact ⟨m + 1 + 1, by omega, by go_num, (by have h := hall.out; exact Lib.hid (by rw [allUp, h]; simp [stGood, e1, e3])), hS5.2.2.2.2.2.1, hS5.2.2.2.2.2.2.2.2.1, hS5.2.2.2.2.2.2.2.2.2.2⟩
            case measure => simp [intOf]; omega
          · obtain ⟨S, hSd⟩ : ∃ S : World → Prop, S = (fun w' => w'.cell? ⟨wr.heap.size, 0, none⟩ = some (.int .i64 (L (m + 1)).k) ∧ w'.cell? ⟨wr.heap.size, 1, none⟩ = some (.int .i64 (L (m + 1)).f) ∧ w'.cell? ⟨wr.heap.size, 2, none⟩ = some (.int .i64 (L (m + 1)).t) ∧ w'.cell? ⟨wr.heap.size, 3, none⟩ = some (.int .i64 (L (m + 1)).n) ∧ w'.cell? ⟨wr.heap.size, 4, none⟩ = some (.int .i64 (L (m + 1)).v) ∧ w'.cell? ⟨w.heap.size, 0, none⟩ = some (.slice (some ⟨b, off, none⟩) n c) ∧ w'.cell? ⟨b, off + m * 5 + 3, none⟩ = some (.int .i64 (L m).n) ∧ wr.heap.size < w'.heap.size ∧ w.heap.size < w'.heap.size ∧ b < w'.heap.size ∧ Below w.heap.size w w') := ⟨_, rfl⟩
            have hS0 : S (wr.alloc (.cells #[.int .i64 (L (m + 1)).k, .int .i64 (L (m + 1)).f, .int .i64 (L (m + 1)).t, .int .i64 (L (m + 1)).n, .int .i64 (L (m + 1)).v] 71)).drew := by rw [hSd]; (first | (with_reducible assumption) | (refine ⟨?_, ?_, ?_, ?_, ?_, ?_, ?_, ?_, ?_, ?_, ?_⟩ <;> first | (with_reducible assumption) | omega | (simp [go_sem, *]; done) | (simp [*]; omega) | ((repeat (first | (with_reducible exact Below.refl _ _) | (with_reducible assumption) | (with_reducible refine Below.drew ?_) | (with_reducible refine below_drewN ?_ _) | ((with_reducible refine Below.setCell ?_ ?_ _); rotate_left; focus (first | (simp; done) | omega | (simp; omega))) | ((with_reducible refine Below.alloc ?_ ?_ _); rotate_left; focus (first | exact Nat.le_refl _ | omega | (simp; done) | (simp; omega))))); first | done | (simp [*]; done))))
            have hkeep : ∀ (u u' : World), S u → Below u.heap.size u u' → S u' := by
              intro u u' hu hb
              rw [hSd] at hu ⊢
              obtain ⟨q0, q1, q2, q3, q4, q5, q6, q7, q8, q9, q10⟩ := hu
              obtain ⟨hc, -⟩ := keepc hb
              have hs := hb.size
              refine ⟨?_, ?_, ?_, ?_, ?_, ?_, ?_, ?_, ?_, ?_, ?_⟩ <;> first | (rw [hc _ _ (by omega)]; assumption) | omega | exact Below.trans (by assumption) (hb.mono (by omega))
            have hSend : ∀ u, S u → ((fun w' => w'.cell? ⟨wr.heap.size, 0, none⟩ = some (.int .i64 (L (m + 1)).k) ∧ w'.cell? ⟨wr.heap.size, 1, none⟩ = some (.int .i64 (L (m + 1)).f) ∧ w'.cell? ⟨wr.heap.size, 2, none⟩ = some (.int .i64 (L (m + 1)).t) ∧ w'.cell? ⟨wr.heap.size, 3, none⟩ = some (.int .i64 (L (m + 1)).n) ∧ w'.cell? ⟨wr.heap.size, 4, none⟩ = some (.int .i64 (L (m + 1)).v) ∧ w'.cell? ⟨w.heap.size, 0, none⟩ = some (.slice (some ⟨b, off, none⟩) n c) ∧ w'.cell? ⟨b, off + m * 5 + 3, none⟩ = some (.int .i64 (L m).n) ∧ wr.heap.size < w'.heap.size ∧ w.heap.size < w'.heap.size ∧ b < w'.heap.size ∧ Below w.heap.size w w')) u := by intro u hu; rw [hSd] at hu; exact hu
            have k0 : ∀ x : InClass S, x.w.cell? ⟨wr.heap.size, 0, none⟩ = some (.int .i64 (L (m + 1)).k) := by intro x; have h := hSend _ x.h; exact h.1
            have k1 : ∀ x : InClass S, x.w.cell? ⟨wr.heap.size, 1, none⟩ = some (.int .i64 (L (m + 1)).f) := by intro x; have h := hSend _ x.h; exact h.2.1
            have k2 : ∀ x : InClass S, x.w.cell? ⟨wr.heap.size, 2, none⟩ = some (.int .i64 (L (m + 1)).t) := by intro x; have h := hSend _ x.h; exact h.2.2.1
            have k3 : ∀ x : InClass S, x.w.cell? ⟨wr.heap.size, 3, none⟩ = some (.int .i64 (L (m + 1)).n) := by intro x; have h := hSend _ x.h; exact h.2.2.2.1
            have k4 : ∀ x : InClass S, x.w.cell? ⟨wr.heap.size, 4, none⟩ = some (.int .i64 (L (m + 1)).v) := by intro x; have h := hSend _ x.h; exact h.2.2.2.2.1
            have k5 : ∀ x : InClass S, x.w.cell? ⟨w.heap.size, 0, none⟩ = some (.slice (some ⟨b, off, none⟩) n c) := by intro x; have h := hSend _ x.h; exact h.2.2.2.2.2.1
            have k6 : ∀ x : InClass S, x.w.cell? ⟨b, off + m * 5 + 3, none⟩ = some (.int .i64 (L m).n) := by intro x; have h := hSend _ x.h; exact h.2.2.2.2.2.2.1
            have FO := fun v => iFactOk (L (m + 1)) v
            rw [e1] at FO
            have hne0 : Nonempty (InClass S) := ⟨⟨_, hS0⟩⟩
            clear hSd
            go_wp2_with fail
            refine wp_region_class (S := S) (by kernel_rfl) (by kernel_rfl) hS0 ?_
            repeat (go_big_quiet_step ((go_at_call 62; exact class_call (FO _) hkeep)))
            refine wpQuiet_nil ?_
            rintro w5 ⟨x5, hx5⟩
            have hS5 := hSend w5 (by rw [hx5]; exact x5.h)
            clear hx5 x5
            go_wp2_with fail
            go_ret
            exact ⟨ret_bool (stOk_no hlt (by simp [stGood, e1, e3])).symm, hS5.2.2.2.2.2.2.2.2.2.2⟩
    · obtain rfl : k = n := by omega
      have ha := hall.out
      have hv : stOk k L = decide ((k : Int) ≤ 200) := by rw [stOk, ha, Bool.true_and]; apply decide_eq_decide.2; omega
      go_wp2_with fail
      go_ret
      exact ⟨ret_bool hv.symm, hbr⟩

set_option maxRecDepth 4000 in
set_option maxHeartbeats 6400000 in
theorem sStoreOk (w : World) (A : Option Addr) (n c : Nat) (L : Nat → Fa) (h : RdFa w w.heap.size A n L) :
    Calls Try.prog 40 #[.agg #[.slice A n c]] w fun e w' => e = .returned (.bool (stOk n L)) ∧ Below w.heap.size w w' := by
  have hn := h.1
  have hbb : Below w.heap.size w (w.alloc (.cells #[.slice A n c] 26)) := (Below.refl _ _).alloc (Nat.le_refl _) _
  go_enter Try.func40, Try.ntmps40
  go_wp2_with fail
  go_loopw [3] (fun i wr => ∃ k : Nat, k ≤ n ∧ i = .int .i64 k ∧ Hid (allUp (stGood L) k = true) ∧ wr.cell? ⟨w.heap.size, 0, none⟩ = some (.slice A n c) ∧ w.heap.size < wr.heap.size ∧ Below w.heap.size w wr) (fun i _ => n - (intOf i).toNat)
  case atStart => exact ⟨0, Nat.zero_le _, rfl, Lib.hid rfl, by simp [go_sem], by simp, hbb⟩
  case round =>
    obtain ⟨k, hk, rfl, hall, hbox, hzb, hbr⟩ := hrel
    have hs1 := hbr.size
    by_cases hlt : k < n
    · have hh := (h.below hbr).2
      obtain ⟨b, off, rfl, hbB, h0, h1, h2, h3, h4⟩ := hh k hlt
      have hb1 : b < wr.heap.size := by omega
      have hne : ¬ b = wr.heap.size := by omega
      have hne2 : ¬ b = w.heap.size := by omega
      have hne3 : ¬ w.heap.size = wr.heap.size := by omega
      clear h
      cases k with
      | zero =>
        simp only [Nat.zero_mul, Nat.add_zero] at h0 h1 h2 h3 h4
        have hz0 : ((0 : Nat) : Int) = 0 := rfl
        rw [hz0]
        have hz1 : (0 : Int) < n := by omega
        have hz2 : 0 < n := hlt
        cases e1 : factB (L 0)
        · obtain ⟨S, hSd⟩ : ∃ S : World → Prop, S = (fun w' => w'.cell? ⟨b, off, none⟩ = some (.int .i64 (L (0)).k) ∧ w'.cell? ⟨b, off + 1, none⟩ = some (.int .i64 (L (0)).f) ∧ w'.cell? ⟨b, off + 2, none⟩ = some (.int .i64 (L (0)).t) ∧ w'.cell? ⟨b, off + 3, none⟩ = some (.int .i64 (L (0)).n) ∧ w'.cell? ⟨b, off + 4, none⟩ = some (.int .i64 (L (0)).v) ∧ w'.cell? ⟨w.heap.size, 0, none⟩ = some (.slice (some ⟨b, off, none⟩) n c) ∧ w.heap.size < w'.heap.size ∧ b < w'.heap.size ∧ Below w.heap.size w w') := ⟨_, rfl⟩
          have hS0 : S wr.drew := by rw [hSd]; (first | (with_reducible assumption) | (refine ⟨?_, ?_, ?_, ?_, ?_, ?_, ?_, ?_, ?_⟩ <;> first | (with_reducible assumption) | omega | (simp [go_sem, *]; done) | (simp [*]; omega) | ((repeat (first | (with_reducible exact Below.refl _ _) | (with_reducible assumption) | (with_reducible refine Below.drew ?_) | (with_reducible refine below_drewN ?_ _) | ((with_reducible refine Below.setCell ?_ ?_ _); rotate_left; focus (first | (simp; done) | omega | (simp; omega))) | ((with_reducible refine Below.alloc ?_ ?_ _); rotate_left; focus (first | exact Nat.le_refl _ | omega | (simp; done) | (simp; omega))))); first | done | (simp [*]; done))))
          have hkeep : ∀ (u u' : World), S u → Below u.heap.size u u' → S u' := by
            intro u u' hu hb
            rw [hSd] at hu ⊢
            obtain ⟨q0, q1, q2, q3, q4, q5, q6, q7, q8⟩ := hu
            obtain ⟨hc, -⟩ := keepc hb
            have hs := hb.size
            refine ⟨?_, ?_, ?_, ?_, ?_, ?_, ?_, ?_, ?_⟩ <;> first | (rw [hc _ _ (by omega)]; assumption) | omega | exact Below.trans (by assumption) (hb.mono (by omega))
          have hSend : ∀ u, S u → ((fun w' => w'.cell? ⟨b, off, none⟩ = some (.int .i64 (L (0)).k) ∧ w'.cell? ⟨b, off + 1, none⟩ = some (.int .i64 (L (0)).f) ∧ w'.cell? ⟨b, off + 2, none⟩ = some (.int .i64 (L (0)).t) ∧ w'.cell? ⟨b, off + 3, none⟩ = some (.int .i64 (L (0)).n) ∧ w'.cell? ⟨b, off + 4, none⟩ = some (.int .i64 (L (0)).v) ∧ w'.cell? ⟨w.heap.size, 0, none⟩ = some (.slice (some ⟨b, off, none⟩) n c) ∧ w.heap.size < w'.heap.size ∧ b < w'.heap.size ∧ Below w.heap.size w w')) u := by intro u hu; rw [hSd] at hu; exact hu
          have k0 : ∀ x : InClass S, x.w.cell? ⟨b, off, none⟩ = some (.int .i64 (L (0)).k) := by intro x; have h := hSend _ x.h; exact h.1
          have k1 : ∀ x : InClass S, x.w.cell? ⟨b, off + 1, none⟩ = some (.int .i64 (L (0)).f) := by intro x; have h := hSend _ x.h; exact h.2.1
          have k2 : ∀ x : InClass S, x.w.cell? ⟨b, off + 2, none⟩ = some (.int .i64 (L (0)).t) := by intro x; have h := hSend _ x.h; exact h.2.2.1
          have k3 : ∀ x : InClass S, x.w.cell? ⟨b, off + 3, none⟩ = some (.int .i64 (L (0)).n) := by intro x; have h := hSend _ x.h; exact h.2.2.2.1
          have k4 : ∀ x : InClass S, x.w.cell? ⟨b, off + 4, none⟩ = some (.int .i64 (L (0)).v) := by intro x; have h := hSend _ x.h; exact h.2.2.2.2.1
          have k5 : ∀ x : InClass S, x.w.cell? ⟨w.heap.size, 0, none⟩ = some (.slice (some ⟨b, off, none⟩) n c) := by intro x; have h := hSend _ x.h; exact h.2.2.2.2.2.1
          have FO := fun v => sFactOk (L (0)) v
          rw [e1] at FO
          have hne0 : Nonempty (InClass S) := ⟨⟨_, hS0⟩⟩
          clear hSd
          go_wp2_with fail
          refine wp_region_class (S := S) (by kernel_rfl) (by kernel_rfl) hS0 ?_
          repeat (go_big_quiet_step ((go_at_call 64; exact class_call (FO _) hkeep)))
          refine wpQuiet_nil ?_
          rintro w5 ⟨x5, hx5⟩
          have hS5 := hSend w5 (by rw [hx5]; exact x5.h)
          clear hx5 x5
          go_wp2_with fail
          go_ret
          exact ⟨ret_bool (stOk_no hlt (by simp [stGood, e1])).symm, hS5.2.2.2.2.2.2.2.2⟩
        · obtain ⟨S, hSd⟩ : ∃ S : World → Prop, S = (fun w' => w'.cell? ⟨b, off, none⟩ = some (.int .i64 (L (0)).k) ∧ w'.cell? ⟨b, off + 1, none⟩ = some (.int .i64 (L (0)).f) ∧ w'.cell? ⟨b, off + 2, none⟩ = some (.int .i64 (L (0)).t) ∧ w'.cell? ⟨b, off + 3, none⟩ = some (.int .i64 (L (0)).n) ∧ w'.cell? ⟨b, off + 4, none⟩ = some (.int .i64 (L (0)).v) ∧ w'.cell? ⟨w.heap.size, 0, none⟩ = some (.slice (some ⟨b, off, none⟩) n c) ∧ w.heap.size < w'.heap.size ∧ b < w'.heap.size ∧ Below w.heap.size w w') := ⟨_, rfl⟩
          have hS0 : S wr.drew := by rw [hSd]; (first | (with_reducible assumption) | (refine ⟨?_, ?_, ?_, ?_, ?_, ?_, ?_, ?_, ?_⟩ <;> first | (with_reducible assumption) | omega | (simp [go_sem, *]; done) | (simp [*]; omega) | ((repeat (first | (with_reducible exact Below.refl _ _) | (with_reducible assumption) | (with_reducible refine Below.drew ?_) | (with_reducible refine below_drewN ?_ _) | ((with_reducible refine Below.setCell ?_ ?_ _); rotate_left; focus (first | (simp; done) | omega | (simp; omega))) | ((with_reducible refine Below.alloc ?_ ?_ _); rotate_left; focus (first | exact Nat.le_refl _ | omega | (simp; done) | (simp; omega))))); first | done | (simp [*]; done))))
          have hkeep : ∀ (u u' : World), S u → Below u.heap.size u u' → S u' := by
            intro u u' hu hb
            rw [hSd] at hu ⊢
            obtain ⟨q0, q1, q2, q3, q4, q5, q6, q7, q8⟩ := hu
            obtain ⟨hc, -⟩ := keepc hb
            have hs := hb.size
            refine ⟨?_, ?_, ?_, ?_, ?_, ?_, ?_, ?_, ?_⟩ <;> first | (rw [hc _ _ (by omega)]; assumption) | omega | exact Below.trans (by assumption) (hb.mono (by omega))
          have hSend : ∀ u, S u → ((fun w' => w'.cell? ⟨b, off, none⟩ = some (.int .i64 (L (0)).k) ∧ w'.cell? ⟨b, off + 1, none⟩ = some (.int .i64 (L (0)).f) ∧ w'.cell? ⟨b, off + 2, none⟩ = some (.int .i64 (L (0)).t) ∧ w'.cell? ⟨b, off + 3, none⟩ = some (.int .i64 (L (0)).n) ∧ w'.cell? ⟨b, off + 4, none⟩ = some (.int .i64 (L (0)).v) ∧ w'.cell? ⟨w.heap.size, 0, none⟩ = some (.slice (some ⟨b, off, none⟩) n c) ∧ w.heap.size < w'.heap.size ∧ b < w'.heap.size ∧ Below w.heap.size w w')) u := by intro u hu; rw [hSd] at hu; exact hu
          have k0 : ∀ x : InClass S, x.w.cell? ⟨b, off, none⟩ = some (.int .i64 (L (0)).k) := by intro x; have h := hSend _ x.h; exact h.1
          have k1 : ∀ x : InClass S, x.w.cell? ⟨b, off + 1, none⟩ = some (.int .i64 (L (0)).f) := by intro x; have h := hSend _ x.h; exact h.2.1
          have k2 : ∀ x : InClass S, x.w.cell? ⟨b, off + 2, none⟩ = some (.int .i64 (L (0)).t) := by intro x; have h := hSend _ x.h; exact h.2.2.1
          have k3 : ∀ x : InClass S, x.w.cell? ⟨b, off + 3, none⟩ = some (.int .i64 (L (0)).n) := by intro x; have h := hSend _ x.h; exact h.2.2.2.1
          have k4 : ∀ x : InClass S, x.w.cell? ⟨b, off + 4, none⟩ = some (.int .i64 (L (0)).v) := by intro x; have h := hSend _ x.h; exact h.2.2.2.2.1
          have k5 : ∀ x : InClass S, x.w.cell? ⟨w.heap.size, 0, none⟩ = some (.slice (some ⟨b, off, none⟩) n c) := by intro x; have h := hSend _ x.h; exact h.2.2.2.2.2.1
          have FO := fun v => sFactOk (L (0)) v
          rw [e1] at FO
          have hne0 : Nonempty (InClass S) := ⟨⟨_, hS0⟩⟩
          clear hSd
          go_wp2_with fail
          refine wp_region_class (S := S) (by kernel_rfl) (by kernel_rfl) hS0 ?_
          repeat (go_big_quiet_step ((go_at_call 64; exact class_call (FO _) hkeep)))
          refine wpQuiet_nil ?_
          rintro w5 ⟨x5, hx5⟩
          have hS5 := hSend w5 (by rw [hx5]; exact x5.h)
          clear hx5 x5
          go_wp2_with fail
          go_roundw
          case rel => exact ⟨0 + 1, by omega, by go_num, (by have h := hall.out; exact Lib.hid (by rw [allUp, h]; simp [stGood, e1])), hS5.2.2.2.2.2.1, hS5.2.2.2.2.2.2.1, hS5.2.2.2.2.2.2.2.2⟩
          case measure => simp [intOf]; omega
      | succ m =>
        obtain ⟨b', off', he', -, g0, g1, g2, g3, g4⟩ := hh m (by omega)
        clear hh
        obtain ⟨rfl, rfl⟩ : b = b' ∧ off = off' := by injection he' with e; injection e with e1 e2 e3; exact ⟨e1, e2⟩
        clear he' g0 g1 g2 g4
        have hw2 : IntKind.i64.wrap (m : Int) = m := IntWalk.i64_in _ ⟨by omega, by omega⟩
        have hw1 : IntKind.i64.wrap ((m : Int) + 1 - 1) = m := by rw [Int.add_sub_cancel]; exact hw2
        have hpos : (0 : Int) < (m : Int) + 1 := by omega
        have hi1 : (m : Int) < n := by omega
        have hi2 : (m : Int) + 1 < n := by omega
        have hi3 : m < n := by omega
        have hi4 : (0 : Int) ≤ (m : Int) + 1 := by omega
        have hi5 : ((m : Int) + 1).toNat = m + 1 := by omega
        cases e1 : factB (L (m + 1))
        · obtain ⟨S, hSd⟩ : ∃ S : World → Prop, S = (fun w' => w'.cell? ⟨b, off + (m + 1) * 5, none⟩ = some (.int .i64 (L (m + 1)).k) ∧ w'.cell? ⟨b, off + (m + 1) * 5 + 1, none⟩ = some (.int .i64 (L (m + 1)).f) ∧ w'.cell? ⟨b, off + (m + 1) * 5 + 2, none⟩ = some (.int .i64 (L (m + 1)).t) ∧ w'.cell? ⟨b, off + (m + 1) * 5 + 3, none⟩ = some (.int .i64 (L (m + 1)).n) ∧ w'.cell? ⟨b, off + (m + 1) * 5 + 4, none⟩ = some (.int .i64 (L (m + 1)).v) ∧ w'.cell? ⟨w.heap.size, 0, none⟩ = some (.slice (some ⟨b, off, none⟩) n c) ∧ w'.cell? ⟨b, off + m * 5 + 3, none⟩ = some (.int .i64 (L m).n) ∧ w.heap.size < w'.heap.size ∧ b < w'.heap.size ∧ Below w.heap.size w w') := ⟨_, rfl⟩
          have hS0 : S wr.drew := by rw [hSd]; (first | (with_reducible assumption) | (refine ⟨?_, ?_, ?_, ?_, ?_, ?_, ?_, ?_, ?_, ?_⟩ <;> first | (with_reducible assumption) | omega | (simp [go_sem, *]; done) | (simp [*]; omega) | ((repeat (first | (with_reducible exact Below.refl _ _) | (with_reducible assumption) | (with_reducible refine Below.drew ?_) | (with_reducible refine below_drewN ?_ _) | ((with_reducible refine Below.setCell ?_ ?_ _); rotate_left; focus (first | (simp; done) | omega | (simp; omega))) | ((with_reducible refine Below.alloc ?_ ?_ _); rotate_left; focus (first | exact Nat.le_refl _ | omega | (simp; done) | (simp; omega))))); first | done | (simp [*]; done))))
          have hkeep : ∀ (u u' : World), S u → Below u.heap.size u u' → S u' := by
            intro u u' hu hb
            rw [hSd] at hu ⊢
            obtain ⟨q0, q1, q2, q3, q4, q5, q6, q7, q8, q9⟩ := hu
            obtain ⟨hc, -⟩ := keepc hb
            have hs := hb.size
            refine ⟨?_, ?_, ?_, ?_, ?_, ?_, ?_, ?_, ?_, ?_⟩ <;> first | (rw [hc _ _ (by omega)]; assumption) | omega | exact Below.trans (by assumption) (hb.mono (by omega))
          have hSend : ∀ u, S u → ((fun w' => w'.cell? ⟨b, off + (m + 1) * 5, none⟩ = some (.int .i64 (L (m + 1)).k) ∧ w'.cell? ⟨b, off + (m + 1) * 5 + 1, none⟩ = some (.int .i64 (L (m + 1)).f) ∧ w'.cell? ⟨b, off + (m + 1) * 5 + 2, none⟩ = some (.int .i64 (L (m + 1)).t) ∧ w'.cell? ⟨b, off + (m + 1) * 5 + 3, none⟩ = some (.int .i64 (L (m + 1)).n) ∧ w'.cell? ⟨b, off + (m + 1) * 5 + 4, none⟩ = some (.int .i64 (L (m + 1)).v) ∧ w'.cell? ⟨w.heap.size, 0, none⟩ = some (.slice (some ⟨b, off, none⟩) n c) ∧ w'.cell? ⟨b, off + m * 5 + 3, none⟩ = some (.int .i64 (L m).n) ∧ w.heap.size < w'.heap.size ∧ b < w'.heap.size ∧ Below w.heap.size w w')) u := by intro u hu; rw [hSd] at hu; exact hu
          have k0 : ∀ x : InClass S, x.w.cell? ⟨b, off + (m + 1) * 5, none⟩ = some (.int .i64 (L (m + 1)).k) := by intro x; have h := hSend _ x.h; exact h.1
          have k1 : ∀ x : InClass S, x.w.cell? ⟨b, off + (m + 1) * 5 + 1, none⟩ = some (.int .i64 (L (m + 1)).f) := by intro x; have h := hSend _ x.h; exact h.2.1
          have k2 : ∀ x : InClass S, x.w.cell? ⟨b, off + (m + 1) * 5 + 2, none⟩ = some (.int .i64 (L (m + 1)).t) := by intro x; have h := hSend _ x.h; exact h.2.2.1
          have k3 : ∀ x : InClass S, x.w.cell? ⟨b, off + (m + 1) * 5 + 3, none⟩ = some (.int .i64 (L (m + 1)).n) := by intro x; have h := hSend _ x.h; exact h.2.2.2.1
          have k4 : ∀ x : InClass S, x.w.cell? ⟨b, off + (m + 1) * 5 + 4, none⟩ = some (.int .i64 (L (m + 1)).v) := by intro x; have h := hSend _ x.h; exact h.2.2.2.2.1
          have k5 : ∀ x : InClass S, x.w.cell? ⟨w.heap.size, 0, none⟩ = some (.slice (some ⟨b, off, none⟩) n c) := by intro x; have h := hSend _ x.h; exact h.2.2.2.2.2.1
          have k6 : ∀ x : InClass S, x.w.cell? ⟨b, off + m * 5 + 3, none⟩ = some (.int .i64 (L m).n) := by intro x; have h := hSend _ x.h; exact h.2.2.2.2.2.2.1
          have FO := fun v => sFactOk (L (m + 1)) v
          rw [e1] at FO
          have hne0 : Nonempty (InClass S) := ⟨⟨_, hS0⟩⟩
          clear hSd
          go_wp2_with fail
          refine wp_region_class (S := S) (by kernel_rfl) (by kernel_rfl) hS0 ?_
          repeat (go_big_quiet_step ((go_at_call 64; exact class_call (FO _) hkeep)))
          refine wpQuiet_nil ?_
          rintro w5 ⟨x5, hx5⟩
          have hS5 := hSend w5 (by rw [hx5]; exact x5.h)
          clear hx5 x5
          go_wp2_with fail
          go_ret
          exact ⟨ret_bool (stOk_no hlt (by simp [stGood, e1])).symm, hS5.2.2.2.2.2.2.2.2.2⟩
        · cases e3 : decide ((L (m + 1)).n < (L m).n)
          · obtain ⟨S, hSd⟩ : ∃ S : World → Prop, S = (fun w' => w'.cell? ⟨b, off + (m + 1) * 5, none⟩ = some (.int .i64 (L (m + 1)).k) ∧ w'.cell? ⟨b, off + (m + 1) * 5 + 1, none⟩ = some (.int .i64 (L (m + 1)).f) ∧ w'.cell? ⟨b, off + (m + 1) * 5 + 2, none⟩ = some (.int .i64 (L (m + 1)).t) ∧ w'.cell? ⟨b, off + (m + 1) * 5 + 3, none⟩ = some (.int .i64 (L (m + 1)).n) ∧ w'.cell? ⟨b, off + (m + 1) * 5 + 4, none⟩ = some (.int .i64 (L (m + 1)).v) ∧ w'.cell? ⟨w.heap.size, 0, none⟩ = some (.slice (some ⟨b, off, none⟩) n c) ∧ w'.cell? ⟨b, off + m * 5 + 3, none⟩ = some (.int .i64 (L m).n) ∧ w.heap.size < w'.heap.size ∧ b < w'.heap.size ∧ Below w.heap.size w w') := ⟨_, rfl⟩
            have hS0 : S wr.drew := by rw [hSd]; (first | (with_reducible assumption) | (refine ⟨?_, ?_, ?_, ?_, ?_, ?_, ?_, ?_, ?_, ?_⟩ <;> first | (with_reducible assumption) | omega | (simp [go_sem, *]; done) | (simp [*]; omega) | ((repeat (first | (with_reducible exact Below.refl _ _) | (with_reducible assumption) | (with_reducible refine Below.drew ?_) | (with_reducible refine below_drewN ?_ _) | ((with_reducible refine Below.setCell ?_ ?_ _); rotate_left; focus (first | (simp; done) | omega | (simp; omega))) | ((with_reducible refine Below.alloc ?_ ?_ _); rotate_left; focus (first | exact Nat.le_refl _ | omega | (simp; done) | (simp; omega))))); first | done | (simp [*]; done))))
            have hkeep : ∀ (u u' : World), S u → Below u.heap.size u u' → S u' := by
              intro u u' hu hb
              rw [hSd] at hu ⊢
              obtain ⟨q0, q1, q2, q3, q4, q5, q6, q7, q8, q9⟩ := hu
              obtain ⟨hc, -⟩ := keepc hb
              have hs := hb.size
              refine ⟨?_, ?_, ?_, ?_, ?_, ?_, ?_, ?_, ?_, ?_⟩ <;> first | (rw [hc _ _ (by omega)]; assumption) | omega | exact Below.trans (by assumption) (hb.mono (by omega))
            have hSend : ∀ u, S u → ((fun w' => w'.cell? ⟨b, off + (m + 1) * 5, none⟩ = some (.int .i64 (L (m + 1)).k) ∧ w'.cell? ⟨b, off + (m + 1) * 5 + 1, none⟩ = some (.int .i64 (L (m + 1)).f) ∧ w'.cell? ⟨b, off + (m + 1) * 5 + 2, none⟩ = some (.int .i64 (L (m + 1)).t) ∧ w'.cell? ⟨b, off + (m + 1) * 5 + 3, none⟩ = some (.int .i64 (L (m + 1)).n) ∧ w'.cell? ⟨b, off + (m + 1) * 5 + 4, none⟩ = some (.int .i64 (L (m + 1)).v) ∧ w'.cell? ⟨w.heap.size, 0, none⟩ = some (.slice (some ⟨b, off, none⟩) n c) ∧ w'.cell? ⟨b, off + m * 5 + 3, none⟩ = some (.int .i64 (L m).n) ∧ w.heap.size < w'.heap.size ∧ b < w'.heap.size ∧ Below w.heap.size w w')) u := by intro u hu; rw [hSd] at hu; exact hu
            have k0 : ∀ x : InClass S, x.w.cell? ⟨b, off + (m + 1) * 5, none⟩ = some (.int .i64 (L (m + 1)).k) := by intro x; have h := hSend _ x.h; exact h.1
            have k1 : ∀ x : InClass S, x.w.cell? ⟨b, off + (m + 1) * 5 + 1, none⟩ = some (.int .i64 (L (m + 1)).f) := by intro x; have h := hSend _ x.h; exact h.2.1
            have k2 : ∀ x : InClass S, x.w.cell? ⟨b, off + (m + 1) * 5 + 2, none⟩ = some (.int .i64 (L (m + 1)).t) := by intro x; have h := hSend _ x.h; exact h.2.2.1
            have k3 : ∀ x : InClass S, x.w.cell? ⟨b, off + (m + 1) * 5 + 3, none⟩ = some (.int .i64 (L (m + 1)).n) := by intro x; have h := hSend _ x.h; exact h.2.2.2.1
            have k4 : ∀ x : InClass S, x.w.cell? ⟨b, off + (m + 1) * 5 + 4, none⟩ = some (.int .i64 (L (m + 1)).v) := by intro x; have h := hSend _ x.h; exact h.2.2.2.2.1
            have k5 : ∀ x : InClass S, x.w.cell? ⟨w.heap.size, 0, none⟩ = some (.slice (some ⟨b, off, none⟩) n c) := by intro x; have h := hSend _ x.h; exact h.2.2.2.2.2.1
            have k6 : ∀ x : InClass S, x.w.cell? ⟨b, off + m * 5 + 3, none⟩ = some (.int .i64 (L m).n) := by intro x; have h := hSend _ x.h; exact h.2.2.2.2.2.2.1
            have FO := fun v => sFactOk (L (m + 1)) v
            rw [e1] at FO
            have hne0 : Nonempty (InClass S) := ⟨⟨_, hS0⟩⟩
            clear hSd
            go_wp2_with fail
            refine wp_region_class (S := S) (by kernel_rfl) (by kernel_rfl) hS0 ?_
            repeat (go_big_quiet_step ((go_at_call 64; exact class_call (FO _) hkeep)))
            refine wpQuiet_nil ?_
            rintro w5 ⟨x5, hx5⟩
            have hS5 := hSend w5 (by rw [hx5]; exact x5.h)
            clear hx5 x5
            go_wp2_with fail
            go_roundw
            case rel => exact ⟨m + 1 + 1, by omega, by go_num, (by have h := hall.out; exact Lib.hid (by rw [allUp, h]; simp [stGood, e1, e3])), hS5.2.2.2.2.2.1, hS5.2.2.2.2.2.2.2.1, hS5.2.2.2.2.2.2.2.2.2⟩
            case measure => simp [intOf]; omega
          · obtain ⟨S, hSd⟩ : ∃ S : World → Prop, S = (fun w' => w'.cell? ⟨b, off + (m + 1) * 5, none⟩ = some (.int .i64 (L (m + 1)).k) ∧ w'.cell? ⟨b, off + (m + 1) * 5 + 1, none⟩ = some (.int .i64 (L (m + 1)).f) ∧ w'.cell? ⟨b, off + (m + 1) * 5 + 2, none⟩ = some (.int .i64 (L (m + 1)).t) ∧ w'.cell? ⟨b, off + (m + 1) * 5 + 3, none⟩ = some (.int .i64 (L (m + 1)).n) ∧ w'.cell? ⟨b, off + (m + 1) * 5 + 4, none⟩ = some (.int .i64 (L (m + 1)).v) ∧ w'.cell? ⟨w.heap.size, 0, none⟩ = some (.slice (some ⟨b, off, none⟩) n c) ∧ w'.cell? ⟨b, off + m * 5 + 3, none⟩ = some (.int .i64 (L m).n) ∧ w.heap.size < w'.heap.size ∧ b < w'.heap.size ∧ Below w.heap.size w w') := ⟨_, rfl⟩
            have hS0 : S wr.drew := by rw [hSd]; (first | (with_reducible assumption) | (refine ⟨?_, ?_, ?_, ?_, ?_, ?_, ?_, ?_, ?_, ?_⟩ <;> first | (with_reducible assumption) | omega | (simp [go_sem, *]; done) | (simp [*]; omega) | ((repeat (first | (with_reducible exact Below.refl _ _) | (with_reducible assumption) | (with_reducible refine Below.drew ?_) | (with_reducible refine below_drewN ?_ _) | ((with_reducible refine Below.setCell ?_ ?_ _); rotate_left; focus (first | (simp; done) | omega | (simp; omega))) | ((with_reducible refine Below.alloc ?_ ?_ _); rotate_left; focus (first | exact Nat.le_refl _ | omega | (simp; done) | (simp; omega))))); first | done | (simp [*]; done))))
            have hkeep : ∀ (u u' : World), S u → Below u.heap.size u u' → S u' := by
              intro u u' hu hb
              rw [hSd] at hu ⊢
              obtain ⟨q0, q1, q2, q3, q4, q5, q6, q7, q8, q9⟩ := hu
              obtain ⟨hc, -⟩ := keepc hb
              have hs := hb.size
              refine ⟨?_, ?_, ?_, ?_, ?_, ?_, ?_, ?_, ?_, ?_⟩ <;> first | (rw [hc _ _ (by omega)]; assumption) | omega | exact Below.trans (by assumption) (hb.mono (by omega))
            have hSend : ∀ u, S u → ((fun w' => w'.cell? ⟨b, off + (m + 1) * 5, none⟩ = some (.int .i64 (L (m + 1)).k) ∧ w'.cell? ⟨b, off + (m + 1) * 5 + 1, none⟩ = some (.int .i64 (L (m + 1)).f) ∧ w'.cell? ⟨b, off + (m + 1) * 5 + 2, none⟩ = some (.int .i64 (L (m + 1)).t) ∧ w'.cell? ⟨b, off + (m + 1) * 5 + 3, none⟩ = some (.int .i64 (L (m + 1)).n) ∧ w'.cell? ⟨b, off + (m + 1) * 5 + 4, none⟩ = some (.int .i64 (L (m + 1)).v) ∧ w'.cell? ⟨w.heap.size, 0, none⟩ = some (.slice (some ⟨b, off, none⟩) n c) ∧ w'.cell? ⟨b, off + m * 5 + 3, none⟩ = some (.int .i64 (L m).n) ∧ w.heap.size < w'.heap.size ∧ b < w'.heap.size ∧ Below w.heap.size w w')) u := by intro u hu; rw [hSd] at hu; exact hu
            have k0 : ∀ x : InClass S, x.w.cell? ⟨b, off + (m + 1) * 5, none⟩ = some (.int .i64 (L (m + 1)).k) := by intro x; have h := hSend _ x.h; exact h.1
            have k1 : ∀ x : InClass S, x.w.cell? ⟨b, off + (m + 1) * 5 + 1, none⟩ = some (.int .i64 (L (m + 1)).f) := by intro x; have h := hSend _ x.h; exact h.2.1
            have k2 : ∀ x : InClass S, x.w.cell? ⟨b, off + (m + 1) * 5 + 2, none⟩ = some (.int .i64 (L (m + 1)).t) := by intro x; have h := hSend _ x.h; exact h.2.2.1
            have k3 : ∀ x : InClass S, x.w.cell? ⟨b, off + (m + 1) * 5 + 3, none⟩ = some (.int .i64 (L (m + 1)).n) := by intro x; have h := hSend _ x.h; exact h.2.2.2.1
            have k4 : ∀ x : InClass S, x.w.cell? ⟨b, off + (m + 1) * 5 + 4, none⟩ = some (.int .i64 (L (m + 1)).v) := by intro x; have h := hSend _ x.h; exact h.2.2.2.2.1
            have k5 : ∀ x : InClass S, x.w.cell? ⟨w.heap.size, 0, none⟩ = some (.slice (some ⟨b, off, none⟩) n c) := by intro x; have h := hSend _ x.h; exact h.2.2.2.2.2.1
            have k6 : ∀ x : InClass S, x.w.cell? ⟨b, off + m * 5 + 3, none⟩ = some (.int .i64 (L m).n) := by intro x; have h := hSend _ x.h; exact h.2.2.2.2.2.2.1
            have FO := fun v => sFactOk (L (m + 1)) v
            rw [e1] at FO
            have hne0 : Nonempty (InClass S) := ⟨⟨_, hS0⟩⟩
            clear hSd
            go_wp2_with fail
            refine wp_region_class (S := S) (by kernel_rfl) (by kernel_rfl) hS0 ?_
            repeat (go_big_quiet_step ((go_at_call 64; exact class_call (FO _) hkeep)))
            refine wpQuiet_nil ?_
            rintro w5 ⟨x5, hx5⟩
            have hS5 := hSend w5 (by rw [hx5]; exact x5.h)
            clear hx5 x5
            go_wp2_with fail
            go_ret
            exact ⟨ret_bool (stOk_no hlt (by simp [stGood, e1, e3])).symm, hS5.2.2.2.2.2.2.2.2.2⟩
    · obtain rfl : k = n := by omega
      have ha := hall.out
      have hv : stOk k L = decide ((k : Int) ≤ 200) := by rw [stOk, ha, Bool.true_and]; apply decide_eq_decide.2; omega
      go_wp2_with fail
      go_ret
      exact ⟨ret_bool hv.symm, hbr⟩
end Go.Proofs.Ytondmakaednpdaa
