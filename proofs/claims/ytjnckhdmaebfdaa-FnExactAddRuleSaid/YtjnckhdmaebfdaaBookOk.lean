/- BookOk of the program and of the reference. Conditions: the rules can be read. -/
import Derived.Test.YtjnckhdmaebfdaaBook3
import Derived.Test.YtjnckhdmaebfdaaMonths
namespace Go.Proofs.Ytjnckhdmaebfdaa
open Go.RowKit

/-- Two rules of one name and one rank that share a month. -/
def clash (o r : Ru) : Bool := o.nm == r.nm && (o.ra == r.ra && (decide (o.fr < r.to) && decide (r.fr < o.to)))
def freeB (R : Nat → Rn) (i : Nat) : Nat → Bool := fun j => !clash (R j).s (R i).s
def bookGood (R : Nat → Rn) (i : Nat) : Bool := ruleB (R i).s (R i).n (R i).N && allUp (freeB R i) i
def bookB (m : Nat) (R : Nat → Rn) : Bool := allUp (bookGood R) m && decide (m ≤ 20)
theorem bookB_no {m k : Nat} {R : Nat → Rn} (h : k < m) (hz : bookGood R k = false) : bookB m R = false := by rw [bookB, allUp_no h hz]; rfl
theorem bookB_len {m : Nat} {R : Nat → Rn} (h : bookB m R = true) : m ≤ 20 := by
  simp only [bookB, Bool.and_eq_true, decide_eq_true_eq] at h
  exact h.2
theorem bookB_rule {m : Nat} {R : Nat → Rn} (h : bookB m R = true) (i : Nat) (hi : i < m) : ruleB (R i).s (R i).n (R i).N = true := by
  simp only [bookB, Bool.and_eq_true] at h
  have := allUp_at h.1 i hi
  simp only [bookGood, Bool.and_eq_true] at this
  exact this.1
theorem bookB_same {m : Nat} {R R' : Nat → Rn} (h : sameR R R' m) : bookB m R' = bookB m R := by
  have e : ∀ k, k ≤ m → allUp (bookGood R') k = allUp (bookGood R) k := by
    intro k
    induction k with
    | zero => intro _; rfl
    | succ k ih =>
      intro hk
      obtain ⟨e1, e2, e3⟩ := h k (by omega)
      have e4 : ∀ l, l ≤ k → allUp (freeB R' k) l = allUp (freeB R k) l := by
        intro l
        induction l with
        | zero => intro _; rfl
        | succ l il => intro hl; rw [allUp, allUp, il (by omega), freeB, freeB, e1, (h l (by omega)).1]
      rw [allUp, allUp, ih (by omega), bookGood, bookGood, e1, e2, e3, e4 k (Nat.le_refl _)]
  rw [bookB, bookB, e m (Nat.le_refl _)]
theorem rule_span {s : Ru} {n : Nat} {N : Nat → No} (h : ruleB s n N = true) : 0 ≤ s.fr ∧ s.fr < s.to ∧ s.to ≤ 3600 := by
  simp only [ruleB, Bool.and_eq_true] at h
  exact spanB_iff.1 h.2.1
theorem months_clash {o r : Ru} (ho : 0 ≤ o.fr ∧ o.fr < o.to ∧ o.to ≤ 3600) (hr : 0 ≤ r.fr ∧ r.fr < r.to ∧ r.to ≤ 3600) : decide (0 < monthsL o.fr o.to r.fr r.to) = (decide (o.fr < r.to) && decide (r.fr < o.to)) := by
  have e : (endB o.fr && (endB o.to && (endB r.fr && endB r.to))) = true := by simp only [Bool.and_eq_true, endB, inB_iff]; omega
  rw [monthsL, if_pos e, Bool.eq_iff_iff]
  simp
  omega

theorem bookGood_rule {R : Nat → Rn} {i : Nat} (h : bookGood R i = true) : ruleB (R i).s (R i).n (R i).N = true := by
  simp only [bookGood, Bool.and_eq_true] at h
  exact h.1

set_option maxRecDepth 8000 in
set_option maxHeartbeats 6400000 in
theorem iBookOk (w : World) (A : Option Addr) (m c : Nat) (R : Nat → Rn) (h : RdRu w w.heap.size A m R) (hmc : m ≤ c) (_hcx : c ≤ 9223372036854775807) (hn : ∀ i, i < m → (R i).n ≤ 1099511627776) :
    Calls Try.prog 26 #[.agg #[.slice A m c]] w fun e w' => e = .returned (.bool (bookB m R)) ∧ Below w.heap.size w w' := by
  have hmx := h.1
  have hbx : Below w.heap.size w (w.alloc (.cells #[.slice A m c] 37)) := (Below.refl _ _).alloc (Nat.le_refl _) _
  have HN := Lib.hid hn
  clear hn
  go_enter Try.func26, Try.ntmps26
  go_wp2_with fail
  go_loopw [10] (fun i wr => ∃ k : Nat, k ≤ m ∧ i = .int .i64 k ∧ Hid (allUp (bookGood R) k = true) ∧ wr.cell? ⟨w.heap.size, 0, none⟩ = some (.slice A m c) ∧ w.heap.size < wr.heap.size ∧ Below w.heap.size w wr) (fun i _ => m - (intOf i).toNat)
  case atStart => exact ⟨0, Nat.zero_le _, rfl, Lib.hid rfl, by simp [go_sem], by simp, hbx⟩
  case round =>
    clear hbx
    obtain ⟨k, hk, rfl, hall, hbox, hzb, hbr⟩ := hrel
    have hs1 := hbr.size
    by_cases hlt : k < m
    · have hrd := (h.below hbr).more hs1
      obtain ⟨⟨b, off, rfl, hbB, h0, h1, h2, h3, h4, h5, h6⟩, hno⟩ := (h.below hbr).2 k hlt
      have hlt2 : (k : Int) < m := by omega
      have hb1 : b < wr.heap.size := by omega
      have hne : ¬ b = wr.heap.size := by omega
      have hne2 : ¬ w.heap.size = wr.heap.size := by omega
      have hnk := HN.out k hlt
      have hbx : Below wr.heap.size wr (wr.alloc (.cells #[.int .i64 (R k).s.nm, .int .i64 (R k).s.fr, .int .i64 (R k).s.to, .int .i64 (R k).s.jo, .int .i64 (R k).s.ra, .int .i64 (R k).s.mo, .slice (R k).A (R k).n (R k).c] 29)) := (Below.refl _ _).alloc (Nat.le_refl _) _
      have RO := fun (v : World) (hv : RdNo v v.heap.size (R k).A (R k).n (R k).N) => iRuleOk v (R k).s (R k).A (R k).n (R k).c (R k).N hv hnk
      have hnr := hno.below (hbx.mono hs1)
      have hck : k ≤ c := by omega
      cases e0 : ruleB (R k).s (R k).n (R k).N
      · rw [e0] at RO
        go_wp2_with fail
        refine (RO _ (hnr.more (by simp; omega))).mono ?_
        rintro e w5 ⟨rfl, hb5⟩
        go_wp2_with fail
        go_ret
        exact ⟨ret_bool (bookB_no hlt (by rw [bookGood, e0]; rfl)).symm, hbr.trans ((hbx.trans (hb5.mono (by simp))).mono hs1)⟩
      · have ek := e0
        rw [e0] at RO
        go_wp2_with fail
        refine (RO _ (hnr.more (by simp; omega))).mono ?_
        rintro e w5 ⟨rfl, hb5⟩
        obtain ⟨hc5, -⟩ := keepc hb5
        have hs5 := hb5.size
        simp at hs5
        have k0 : w5.cell? ⟨wr.heap.size, 0, none⟩ = some (.int .i64 (R k).s.nm) := by rw [hc5 _ _ (by simp)]; simp [go_sem]
        have k1 : w5.cell? ⟨wr.heap.size, 1, none⟩ = some (.int .i64 (R k).s.fr) := by rw [hc5 _ _ (by simp)]; simp [go_sem]
        have k2 : w5.cell? ⟨wr.heap.size, 2, none⟩ = some (.int .i64 (R k).s.to) := by rw [hc5 _ _ (by simp)]; simp [go_sem]
        have k3 : w5.cell? ⟨wr.heap.size, 3, none⟩ = some (.int .i64 (R k).s.jo) := by rw [hc5 _ _ (by simp)]; simp [go_sem]
        have k4 : w5.cell? ⟨wr.heap.size, 4, none⟩ = some (.int .i64 (R k).s.ra) := by rw [hc5 _ _ (by simp)]; simp [go_sem]
        have k5 : w5.cell? ⟨wr.heap.size, 5, none⟩ = some (.int .i64 (R k).s.mo) := by rw [hc5 _ _ (by simp)]; simp [go_sem]
        have k6 : w5.cell? ⟨wr.heap.size, 6, none⟩ = some (.slice (R k).A (R k).n (R k).c) := by rw [hc5 _ _ (by simp)]; simp [go_sem]
        have hbb := hbx.trans (hb5.mono (by simp))
        clear hc5
        obtain ⟨hc5, -⟩ := keepc hbb
        replace hbox : w5.cell? ⟨w.heap.size, 0, none⟩ = some (.slice (some ⟨b, off, none⟩) m c) := by rw [hc5 _ _ hzb]; exact hbox
        have hB5 := hbr.trans (hbb.mono hs1)
        have hrd5 := hrd.below hbb
        have hz5 : wr.heap.size < w5.heap.size := by omega
        have hz5w : w.heap.size < w5.heap.size := by omega
        clear hc5 hb5 hbb hbx RO hnr hno hrd hbr h0 h1 h2 h3 h4 h5 h6 hb1 hbB hs1
        obtain ⟨q4, hq4⟩ : ∃ q, q = wr.heap.size := ⟨_, rfl⟩
        rw [← hq4] at k0 k1 k2 k3 k4 k5 k6 hz5 hne hne2 hrd5
        have hzq4 : w.heap.size < q4 := by omega
        go_wp2_with fail
        rw [← hq4]
        clear hq4 hs5
        go_loopw [23] (fun i wq => ∃ l : Nat, l ≤ k ∧ i = .int .i64 l ∧ Hid (allUp (freeB R k) l = true) ∧ wq.cell? ⟨w.heap.size, 0, none⟩ = some (.slice (some ⟨b, off, none⟩) m c) ∧ (wq.cell? ⟨q4, 0, none⟩ = some (.int .i64 (R k).s.nm) ∧ wq.cell? ⟨q4, 1, none⟩ = some (.int .i64 (R k).s.fr) ∧ wq.cell? ⟨q4, 2, none⟩ = some (.int .i64 (R k).s.to) ∧ wq.cell? ⟨q4, 3, none⟩ = some (.int .i64 (R k).s.jo) ∧ wq.cell? ⟨q4, 4, none⟩ = some (.int .i64 (R k).s.ra) ∧ wq.cell? ⟨q4, 5, none⟩ = some (.int .i64 (R k).s.mo) ∧ wq.cell? ⟨q4, 6, none⟩ = some (.slice (R k).A (R k).n (R k).c)) ∧ Below w5.heap.size w5 wq) (fun i _ => k - (intOf i).toNat)
        case atStart => exact ⟨0, Nat.zero_le _, rfl, Lib.hid rfl, hbox, ⟨k0, k1, k2, k3, k4, k5, k6⟩, Below.refl _ _⟩
        case round =>
          clear hbox k0 k1 k2 k3 k4 k5 k6
          obtain ⟨l, hl, rfl, hall2, hbox, ⟨k0, k1, k2, k3, k4, k5, k6⟩, hbq⟩ := hrel
          have hsq := hbq.size
          have zq1 : w.heap.size < wr.heap.size := by omega
          have zq2 : q4 < wr.heap.size := by omega
          have zn1 : ¬ w.heap.size = wr.heap.size := by omega
          have zn2 : ¬ q4 = wr.heap.size := by omega
          by_cases hlt3 : l < k
          · obtain ⟨⟨b', off', he', hbB', g0, g1, g2, g3, g4, g5, g6⟩, -⟩ := (hrd5.below (hbq.mono (by omega))).2 l (by omega)
            obtain ⟨rfl, rfl⟩ : b = b' ∧ off = off' := by injection he' with e; injection e with e1 e2 e3; exact ⟨e1, e2⟩
            clear he'
            have hlt4 : (l : Int) < k := by omega
            have hlt5 : (l : Int) < m := by omega
            have hlm : l < m := by omega
            have hbq2 : b < wr.heap.size := by omega
            have hbn : ¬ b = wr.heap.size := by omega
            cases t1 : (R l).s.nm == (R k).s.nm
            · go_wp2_with fail
              go_roundw
              case rel => exact ⟨l + 1, by omega, by go_num, Lib.hid (by rw [allUp, hall2.out, freeB, clash]; simp [t1]), by simp [go_sem, *], ⟨by simp [go_sem, *], by simp [go_sem, *], by simp [go_sem, *], by simp [go_sem, *], by simp [go_sem, *], by simp [go_sem, *], by simp [go_sem, *]⟩, (hbq.alloc hsq _)⟩
              case measure => simp [intOf]; omega
            · skip
              cases t2 : (R l).s.ra == (R k).s.ra
              · go_wp2_with fail
                go_roundw
                case rel => exact ⟨l + 1, by omega, by go_num, Lib.hid (by rw [allUp, hall2.out, freeB, clash]; simp [t1, t2]), by simp [go_sem, *], ⟨by simp [go_sem, *], by simp [go_sem, *], by simp [go_sem, *], by simp [go_sem, *], by simp [go_sem, *], by simp [go_sem, *], by simp [go_sem, *]⟩, (hbq.alloc hsq _)⟩
                case measure => simp [intOf]; omega
              · skip
                cases t3 : decide ((R l).s.fr < (R k).s.to)
                · go_wp2_with fail
                  go_roundw
                  case rel => exact ⟨l + 1, by omega, by go_num, Lib.hid (by rw [allUp, hall2.out, freeB, clash]; simp [t1, t2, t3]), by simp [go_sem, *], ⟨by simp [go_sem, *], by simp [go_sem, *], by simp [go_sem, *], by simp [go_sem, *], by simp [go_sem, *], by simp [go_sem, *], by simp [go_sem, *]⟩, (hbq.alloc hsq _)⟩
                  case measure => simp [intOf]; omega
                · skip
                  cases t4 : decide ((R k).s.fr < (R l).s.to)
                  · go_wp2_with fail
                    go_roundw
                    case rel => exact ⟨l + 1, by omega, by go_num, Lib.hid (by rw [allUp, hall2.out, freeB, clash]; simp [t1, t2, t3, t4]), by simp [go_sem, *], ⟨by simp [go_sem, *], by simp [go_sem, *], by simp [go_sem, *], by simp [go_sem, *], by simp [go_sem, *], by simp [go_sem, *], by simp [go_sem, *]⟩, (hbq.alloc hsq _)⟩
                    case measure => simp [intOf]; omega
                  · skip
                    go_wp2_with fail
                    go_ret
                    exact ⟨ret_bool (bookB_no hlt (by rw [bookGood, allUp_no (P := freeB R k) hlt3 (by rw [freeB, clash]; simp [t1, t2, t3, t4])]; simp)).symm, hB5.trans ((hbq.alloc hsq _).mono (by omega))⟩
          · obtain rfl : l = k := by omega
            have hg : bookGood R l = true := by rw [bookGood, ek, hall2.out]; rfl
            go_wp2_with fail
            go_roundw
            case rel => exact ⟨l + 1, by omega, by go_num, Lib.hid (by rw [allUp, hall.out, hg]; rfl), hbox, zq1, hB5.trans (hbq.mono (by omega))⟩
            case measure => simp [intOf]; omega
    · obtain rfl : k = m := by omega
      have hv : bookB k R = decide ((k : Int) ≤ 20) := by rw [bookB, hall.out, Bool.true_and]; apply decide_eq_decide.2; omega
      go_wp2_with fail
      go_ret
      exact ⟨ret_bool hv.symm, hbr⟩

set_option maxRecDepth 8000 in
set_option maxHeartbeats 6400000 in
theorem sBookOk (w : World) (A : Option Addr) (m c : Nat) (R : Nat → Rn) (h : RdRu w w.heap.size A m R) (hmc : m ≤ c) (_hcx : c ≤ 9223372036854775807) (hn : ∀ i, i < m → (R i).n ≤ 1099511627776) :
    Calls Try.prog 28 #[.agg #[.slice A m c]] w fun e w' => e = .returned (.bool (bookB m R)) ∧ Below w.heap.size w w' := by
  have hmx := h.1
  have hbx : Below w.heap.size w (w.alloc (.cells #[.slice A m c] 37)) := (Below.refl _ _).alloc (Nat.le_refl _) _
  have HN := Lib.hid hn
  clear hn
  go_enter Try.func28, Try.ntmps28
  go_wp2_with fail
  go_loopw [3] (fun i wr => ∃ k : Nat, k ≤ m ∧ i = .int .i64 k ∧ Hid (allUp (bookGood R) k = true) ∧ wr.cell? ⟨w.heap.size, 0, none⟩ = some (.slice A m c) ∧ w.heap.size < wr.heap.size ∧ Below w.heap.size w wr) (fun i _ => m - (intOf i).toNat)
  case atStart => exact ⟨0, Nat.zero_le _, rfl, Lib.hid rfl, by simp [go_sem], by simp, hbx⟩
  case round =>
    clear hbx
    obtain ⟨k, hk, rfl, hall, hbox, hzb, hbr⟩ := hrel
    have hs1 := hbr.size
    by_cases hlt : k < m
    · have hrd := (h.below hbr).more hs1
      obtain ⟨⟨b, off, rfl, hbB, h0, h1, h2, h3, h4, h5, h6⟩, hno⟩ := (h.below hbr).2 k hlt
      have hlt2 : (k : Int) < m := by omega
      have hb1 : b < wr.heap.size := by omega
      have hne : ¬ b = wr.heap.size := by omega
      have hne2 : ¬ w.heap.size = wr.heap.size := by omega
      have hnk := HN.out k hlt
      have hbx : Below wr.heap.size wr (wr.alloc (.cells #[.int .i64 (R k).s.nm, .int .i64 (R k).s.fr, .int .i64 (R k).s.to, .int .i64 (R k).s.jo, .int .i64 (R k).s.ra, .int .i64 (R k).s.mo, .slice (R k).A (R k).n (R k).c] 29)) := (Below.refl _ _).alloc (Nat.le_refl _) _
      have RO := fun (v : World) (hv : RdNo v v.heap.size (R k).A (R k).n (R k).N) => sRuleOk v (R k).s (R k).A (R k).n (R k).c (R k).N hv hnk
      have hnr := hno.below (hbx.mono hs1)
      have hck : k ≤ c := by omega
      cases e0 : ruleB (R k).s (R k).n (R k).N
      · rw [e0] at RO
        go_wp2_with fail
        refine (RO _ (hnr.more (by simp; omega))).mono ?_
        rintro e w5 ⟨rfl, hb5⟩
        go_wp2_with fail
        go_ret
        exact ⟨ret_bool (bookB_no hlt (by rw [bookGood, e0]; rfl)).symm, hbr.trans ((hbx.trans (hb5.mono (by simp))).mono hs1)⟩
      · have ek := e0
        rw [e0] at RO
        go_wp2_with fail
        refine (RO _ (hnr.more (by simp; omega))).mono ?_
        rintro e w5 ⟨rfl, hb5⟩
        obtain ⟨hc5, -⟩ := keepc hb5
        have hs5 := hb5.size
        simp at hs5
        have k0 : w5.cell? ⟨wr.heap.size, 0, none⟩ = some (.int .i64 (R k).s.nm) := by rw [hc5 _ _ (by simp)]; simp [go_sem]
        have k1 : w5.cell? ⟨wr.heap.size, 1, none⟩ = some (.int .i64 (R k).s.fr) := by rw [hc5 _ _ (by simp)]; simp [go_sem]
        have k2 : w5.cell? ⟨wr.heap.size, 2, none⟩ = some (.int .i64 (R k).s.to) := by rw [hc5 _ _ (by simp)]; simp [go_sem]
        have k3 : w5.cell? ⟨wr.heap.size, 3, none⟩ = some (.int .i64 (R k).s.jo) := by rw [hc5 _ _ (by simp)]; simp [go_sem]
        have k4 : w5.cell? ⟨wr.heap.size, 4, none⟩ = some (.int .i64 (R k).s.ra) := by rw [hc5 _ _ (by simp)]; simp [go_sem]
        have k5 : w5.cell? ⟨wr.heap.size, 5, none⟩ = some (.int .i64 (R k).s.mo) := by rw [hc5 _ _ (by simp)]; simp [go_sem]
        have k6 : w5.cell? ⟨wr.heap.size, 6, none⟩ = some (.slice (R k).A (R k).n (R k).c) := by rw [hc5 _ _ (by simp)]; simp [go_sem]
        have hbb := hbx.trans (hb5.mono (by simp))
        clear hc5
        obtain ⟨hc5, -⟩ := keepc hbb
        replace hbox : w5.cell? ⟨w.heap.size, 0, none⟩ = some (.slice (some ⟨b, off, none⟩) m c) := by rw [hc5 _ _ hzb]; exact hbox
        have hB5 := hbr.trans (hbb.mono hs1)
        have hrd5 := hrd.below hbb
        have hz5 : wr.heap.size < w5.heap.size := by omega
        have hz5w : w.heap.size < w5.heap.size := by omega
        clear hc5 hb5 hbb hbx RO hnr hno hrd hbr h0 h1 h2 h3 h4 h5 h6 hb1 hbB hs1
        obtain ⟨q4, hq4⟩ : ∃ q, q = wr.heap.size := ⟨_, rfl⟩
        rw [← hq4] at k0 k1 k2 k3 k4 k5 k6 hz5 hne hne2 hrd5
        have hzq4 : w.heap.size < q4 := by omega
        go_wp2_with fail
        rw [← hq4]
        clear hq4 hs5
        go_loopw [5] (fun i wq => ∃ l : Nat, l ≤ k ∧ i = .int .i64 l ∧ Hid (allUp (freeB R k) l = true) ∧ wq.cell? ⟨w.heap.size, 0, none⟩ = some (.slice (some ⟨b, off, none⟩) m c) ∧ (wq.cell? ⟨q4, 0, none⟩ = some (.int .i64 (R k).s.nm) ∧ wq.cell? ⟨q4, 1, none⟩ = some (.int .i64 (R k).s.fr) ∧ wq.cell? ⟨q4, 2, none⟩ = some (.int .i64 (R k).s.to) ∧ wq.cell? ⟨q4, 3, none⟩ = some (.int .i64 (R k).s.jo) ∧ wq.cell? ⟨q4, 4, none⟩ = some (.int .i64 (R k).s.ra) ∧ wq.cell? ⟨q4, 5, none⟩ = some (.int .i64 (R k).s.mo) ∧ wq.cell? ⟨q4, 6, none⟩ = some (.slice (R k).A (R k).n (R k).c)) ∧ Below w5.heap.size w5 wq) (fun i _ => k - (intOf i).toNat)
        case atStart => exact ⟨0, Nat.zero_le _, rfl, Lib.hid rfl, hbox, ⟨k0, k1, k2, k3, k4, k5, k6⟩, Below.refl _ _⟩
        case round =>
          clear hbox k0 k1 k2 k3 k4 k5 k6
          obtain ⟨l, hl, rfl, hall2, hbox, ⟨k0, k1, k2, k3, k4, k5, k6⟩, hbq⟩ := hrel
          have hsq := hbq.size
          have zq1 : w.heap.size < wr.heap.size := by omega
          have zq2 : q4 < wr.heap.size := by omega
          have zn1 : ¬ w.heap.size = wr.heap.size := by omega
          have zn2 : ¬ q4 = wr.heap.size := by omega
          by_cases hlt3 : l < k
          · obtain ⟨⟨b', off', he', hbB', g0, g1, g2, g3, g4, g5, g6⟩, -⟩ := (hrd5.below (hbq.mono (by omega))).2 l (by omega)
            obtain ⟨rfl, rfl⟩ : b = b' ∧ off = off' := by injection he' with e; injection e with e1 e2 e3; exact ⟨e1, e2⟩
            clear he'
            have hlt4 : (l : Int) < k := by omega
            have hlt5 : (l : Int) < m := by omega
            have hlm : l < m := by omega
            have hbq2 : b < wr.heap.size := by omega
            have hbn : ¬ b = wr.heap.size := by omega
            have hok1 := rule_span (bookGood_rule (allUp_at hall.out l hlt3))
            have hok2 := rule_span ek
            have MC := months_clash hok1 hok2
            obtain ⟨M, hM⟩ : ∃ M, M = monthsL (R l).s.fr (R l).s.to (R k).s.fr (R k).s.to := ⟨_, rfl⟩
            have MI := fun (v : World) => sMonthsIn (R l).s.fr (R l).s.to (R k).s.fr (R k).s.to v
            simp only [← hM] at MC MI
            clear hM hok1 hok2
            cases t1 : (R l).s.nm == (R k).s.nm
            · go_wp2_with fail
              go_roundw
              case rel => exact ⟨l + 1, by omega, by go_num, Lib.hid (by rw [allUp, hall2.out, freeB, clash]; simp [t1]), by simp [go_sem, *], ⟨by simp [go_sem, *], by simp [go_sem, *], by simp [go_sem, *], by simp [go_sem, *], by simp [go_sem, *], by simp [go_sem, *], by simp [go_sem, *]⟩, (hbq.alloc hsq _)⟩
              case measure => simp [intOf]; omega
            · skip
              cases t2 : (R l).s.ra == (R k).s.ra
              · go_wp2_with fail
                go_roundw
                case rel => exact ⟨l + 1, by omega, by go_num, Lib.hid (by rw [allUp, hall2.out, freeB, clash]; simp [t1, t2]), by simp [go_sem, *], ⟨by simp [go_sem, *], by simp [go_sem, *], by simp [go_sem, *], by simp [go_sem, *], by simp [go_sem, *], by simp [go_sem, *], by simp [go_sem, *]⟩, (hbq.alloc hsq _)⟩
                case measure => simp [intOf]; omega
              · skip
                cases t5 : decide (0 < M)
                · rw [t5] at MC
                  have MC2 := Lib.hid MC.symm
                  clear MC
                  go_wp2_with fail
                  refine (MI _).mono ?_
                  rintro e w7 ⟨rfl, rfl⟩
                  go_wp2_with fail
                  go_roundw
                  case rel => exact ⟨l + 1, by omega, by go_num, Lib.hid (by rw [allUp, hall2.out, freeB, clash]; simp [t1, t2, MC2.out]), by simp [go_sem, *], ⟨by simp [go_sem, *], by simp [go_sem, *], by simp [go_sem, *], by simp [go_sem, *], by simp [go_sem, *], by simp [go_sem, *], by simp [go_sem, *]⟩, (hbq.alloc hsq _)⟩
                  case measure => simp [intOf]; omega
                · rw [t5] at MC
                  have MC2 := Lib.hid MC.symm
                  clear MC
                  go_wp2_with fail
                  refine (MI _).mono ?_
                  rintro e w7 ⟨rfl, rfl⟩
                  go_wp2_with fail
                  go_ret
                  exact ⟨ret_bool (bookB_no hlt (by rw [bookGood, allUp_no (P := freeB R k) hlt3 (by rw [freeB, clash]; simp [t1, t2, MC2.out])]; simp)).symm, hB5.trans ((hbq.alloc hsq _).mono (by omega))⟩
          · obtain rfl : l = k := by omega
            have hg : bookGood R l = true := by rw [bookGood, ek, hall2.out]; rfl
            go_wp2_with fail
            go_roundw
            case rel => exact ⟨l + 1, by omega, by go_num, Lib.hid (by rw [allUp, hall.out, hg]; rfl), hbox, zq1, hB5.trans (hbq.mono (by omega))⟩
            case measure => simp [intOf]; omega
    · obtain rfl : k = m := by omega
      have hv : bookB k R = decide ((k : Int) ≤ 20) := by rw [bookB, hall.out, Bool.true_and]; apply decide_eq_decide.2; omega
      go_wp2_with fail
      go_ret
      exact ⟨ret_bool hv.symm, hbr⟩
end Go.Proofs.Ytjnckhdmaebfdaa
