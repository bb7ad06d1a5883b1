/- The laws of a drawn book: rules, protection, gaps. No conditions. -/
import Derived.Test.YtjnckhdmaebfdaaDrawB
import Derived.Test.YtjnckhdmaebfdaaProt
import Derived.Test.YtjnckhdmaebfdaaGaps
import Derived.Deep.Cut
import Derived.Deep.QuietTactic
import Derived.BigQuiet
namespace Go.Proofs.Ytjnckhdmaebfdaa
open Go.RowKit

set_option linter.unusedVariables false
/-- A drawn book, as it is read. -/
def drawnQ (m : Nat) (R : Nat → Rn) (mo nm : Int) : Prop := bookB m R = true ∧ 1 ≤ m ∧ (∃ i, i < m ∧ (R i).s.nm = nm ∧ (R i).s.fr ≤ mo ∧ mo < (R i).s.to) ∧ (∀ i, i < m → 1 ≤ (R i).s.nm ∧ (R i).s.nm ≤ 3 ∧ 0 ≤ (R i).s.ra ∧ (R i).s.ra ≤ 3) ∧ ∀ i, i < m → (R i).A = none → (R i).n = 0 ∧ (R i).c = 0
theorem drawnQ.month {m : Nat} {R : Nat → Rn} {mo nm : Int} (h : drawnQ m R mo nm) : 0 ≤ mo ∧ mo < 3600 := by
  obtain ⟨h1, -, ⟨i, hi, -, h3, h4⟩, -⟩ := h
  obtain ⟨a, b, c⟩ := rule_span (bookB_rule h1 i hi)
  omega
theorem drawnQ.n {m : Nat} {R : Nat → Rn} {mo nm : Int} (h : drawnQ m R mo nm) : ∀ i, i < m → (R i).n ≤ 1099511627776 := fun i hi => Nat.le_trans (bookB_n h.1 i hi) (by omega)
theorem sDrawBookR (w : World) (A : Option Addr) (n c : Nat) (hb : Bys w w.heap.size A n) :
    Calls Try.prog 21 #[.slice A n c] w fun e w' => ∃ (m : Nat) (R : Nat → Rn) (D : Option Addr) (cd : Nat) (mo nm : Int), e = .returned (.tuple #[.agg #[.slice D m cd], .int .i64 mo, .int .i64 nm]) ∧ drawnQ m R mo nm ∧ m ≤ cd ∧ cd ≤ 9223372036854775807 ∧ RdRu w' w'.heap.size D m R ∧ Below w.heap.size w w' := by
  refine (sDrawBook w A n c hb).mono ?_
  rintro e w' ⟨xs, D, cd, mo, nm, rfl, hx, h1, hex, own, hbl⟩
  exact ⟨xs.length, fun i => xs.getD i Rn.zero, D, cd, mo, nm, rfl, ⟨hx.1, h1, hex, hx.2, fun i hi => owr_nil (own.2.1 i hi)⟩, own.cap.1, (by have := own.cap.2; unfold maxLen at this; omega), own.rd, hbl⟩
theorem ite_some {c : Prop} [Decidable c] {a b : Nat} : ∃ j, (if c then some a else some b) = some j := by split <;> exact ⟨_, rfl⟩
theorem ruBest_ex {R : Nat → Rn} {name mo jo : Int} : ∀ {k i : Nat}, i < k → ruHit (R i).s name mo jo = true → ∃ j, ruBest R name mo jo k = some j
  | 0, i, hi, _ => by omega
  | k + 1, i, hi, hh => by
    rw [ruBest]
    by_cases e : i = k
    · subst e
      rw [hh, Bool.true_and]
      cases hq : ruBest R name mo jo i with
      | none => exact ⟨i, rfl⟩
      | some j =>
        exact ite_some
    · obtain ⟨j, hj⟩ := ruBest_ex (show i < k by omega) hh
      rw [hj]
      exact ite_some
theorem ruBest_hit {R : Nat → Rn} {name mo jo : Int} : ∀ {k j : Nat}, ruBest R name mo jo k = some j → ruHit (R j).s name mo jo = true ∧ ∀ i, i < k → ruHit (R i).s name mo jo = true → (R i).s.ra ≤ (R j).s.ra
  | 0, j, h => by simp [ruBest] at h
  | k + 1, j, h => by
    rw [ruBest] at h
    cases hq : ruBest R name mo jo k with
    | none =>
      rw [hq] at h
      have hno : ∀ i, i < k → ruHit (R i).s name mo jo = true → False := fun i hi hh => by obtain ⟨j, hj⟩ := ruBest_ex hi hh; rw [hq] at hj; cases hj
      cases hh : ruHit (R k).s name mo jo with
      | false => rw [hh] at h; simp at h
      | true =>
        rw [hh] at h
        simp at h
        subst h
        exact ⟨hh, fun i hi hi2 => by
          by_cases e : i = k
          · subst e; exact Int.le_refl _
          · exact (hno i (by omega) hi2).elim⟩
    | some q =>
      rw [hq] at h
      obtain ⟨h1, h2⟩ := ruBest_hit hq
      cases hh : ruHit (R k).s name mo jo with
      | false =>
        rw [hh] at h
        simp at h
        subst h
        exact ⟨h1, fun i hi hi2 => by
          by_cases e : i = k
          · subst e; rw [hh] at hi2; cases hi2
          · exact h2 i (by omega) hi2⟩
      | true =>
        rw [hh, Bool.true_and] at h
        by_cases hr : (R q).s.ra < (R k).s.ra
        · simp only [decide_eq_true hr, if_pos] at h
          injection h with h
          subst h
          exact ⟨hh, fun i hi hi2 => by
            by_cases e : i = k
            · subst e; exact Int.le_refl _
            · have := h2 i (by omega) hi2; omega⟩
        · simp only [decide_eq_false hr] at h
          simp at h
          subst h
          exact ⟨h1, fun i hi hi2 => by
            by_cases e : i = k
            · subst e; omega
            · exact h2 i (by omega) hi2⟩
/-- A drawn book has a rule for its month and name, for who joined at first. -/
theorem drawnQ.best {m : Nat} {R : Nat → Rn} {mo nm : Int} (h : drawnQ m R mo nm) : ∃ j, ruBest R nm mo 0 m = some j := by
  obtain ⟨h1, -, ⟨i, hi, h2, h3, h4⟩, -⟩ := h
  refine ruBest_ex hi ?_
  have hr := bookB_rule h1 i hi
  simp only [ruleB, Bool.and_eq_true, inB_iff] at hr
  have hj := hr.2.2.1.1
  simp [ruHit, h2, h3, h4]
  omega

set_option maxRecDepth 8000 in
set_option maxHeartbeats 3200000 in
theorem walkProtected (A : Option Addr) (n c : Nat) (w : World) (hb : Bys w w.heap.size A n) :
    Calls Try.prog 5 #[.slice A n c] w fun e w' => e = .returned (.bool true) ∧ Below w.heap.size w w' := by
  have hn := hb.1
  by_cases hbig : (1048576 : Int) < n
  · have hd : decide ((1048576 : Int) < n) = true := by simpa using hbig
    go_enter Try.func5, Try.ntmps5
    go_wp2_with fail
    refine (lBig _ _ _ _ (by omega)).mono ?_
    rintro e w' ⟨rfl, rfl⟩
    go_wp2_with fail
    go_ret
    exact ⟨rfl, Below.refl _ _⟩
  · have hbg : decide ((1048576 : Int) < n) = false := by simpa using hbig
    go_enter Try.func5, Try.ntmps5
    go_wp2_with fail
    refine (lBig _ _ _ _ (by omega)).mono ?_
    rintro e w' ⟨rfl, rfl⟩
    go_wp2_with fail
    refine (sDrawBookR _ _ _ _ hb).mono ?_
    rintro e w1 ⟨m, R, D, cd, mo, nm, rfl, hq, hmc, hcx, rd, hb1⟩
    have hs1 := hb1.size
    obtain ⟨j, hj⟩ := hq.best
    have hmo := hq.month
    obtain ⟨mo0, mo1⟩ := hmo
    have hX : ruleForL m R nm mo 0 = (j : Int) := by rw [ruleForL, if_pos hq.1, hj]; rfl
    obtain ⟨Y, hY⟩ : ∃ Y, Y = ruleForL m R nm mo 3599 := ⟨_, rfl⟩
    have hP : protL m R nm mo 0 = ((j : Int) != Y) := by rw [protL, hX, ← hY, protF, BEq.comm (a := Y)]; simp [bne]
    have hP2 : protL m R nm mo 3599 = false := by rw [protL, ← hY, protF]; simp
    have hG : gapL m R nm 0 mo (mo + 1) = [] := by rw [gapL, if_pos (by rw [hq.1, endB, endB, inB_t (by omega) (by omega), inB_t (by omega) (by omega)]; rfl), show (mo + 1 - mo).toNat = 1 by omega, gapF]; simp [hj, gapF]
    have e1 : IntKind.i64.wrap (mo + 1) = mo + 1 := IntWalk.i64_in _ ⟨by omega, by omega⟩
    have C1 := fun (v : World) (hv : RdRu v v.heap.size D m R) => iRuleFor v D m cd R nm mo 0 hv hmc hcx hq.n
    have C2 := fun (v : World) (hv : RdRu v v.heap.size D m R) => iRuleFor v D m cd R nm mo 3599 hv hmc hcx hq.n
    have C3 := fun (v : World) (hv : RdRu v v.heap.size D m R) => iGapsIn v D m cd R nm 0 mo (mo + 1) hv hmc hcx hq.n
    have C4 := fun (v : World) (hv : RdRu v v.heap.size D m R) => iIsProtected v D m cd R nm mo 0 hv hmc hcx hq.n
    have C5 := fun (v : World) (hv : RdRu v v.heap.size D m R) => iIsProtected v D m cd R nm mo 3599 hv hmc hcx hq.n
    have C6 := fun (v : World) (hv : RdRu v v.heap.size D m R) => iBookOk v D m cd R hv hmc hcx hq.n
    rw [hX] at C1
    rw [← hY] at C2
    rw [hG] at C3
    rw [hP] at C4
    rw [hP2] at C5
    rw [hq.1] at C6
    clear hX hY hG hP hP2 hq hj hb
    have hx1 : Below w1.heap.size w1 (w1.alloc (.cells #[.slice D m cd] 37)) := (by (repeat (first | (with_reducible exact Below.refl _ _) | (with_reducible assumption) | (with_reducible refine Below.drew ?_) | (with_reducible refine below_drewN ?_ _) | ((with_reducible refine Below.setCell ?_ ?_ _); rotate_left; focus (first | (simp; done) | omega | (simp; omega))) | ((with_reducible refine Below.alloc ?_ ?_ _); rotate_left; focus (first | exact Nat.le_refl _ | omega | (simp; done) | (simp; omega))))))
    have hy1 := hx1.size
    replace rd := (rd.below hx1).more hy1
    have hA1 : Below w.heap.size w (w1.alloc (.cells #[.slice D m cd] 37)) := hb1.trans (hx1.mono hb1.size)
    have pK : Whole (w1.alloc (.cells #[.slice D m cd] 37)) (w1.heap.size) 37 #[.slice D m cd] := (Whole.new w1 37 #[.slice D m cd])
    obtain ⟨b1a, hbq1a⟩ : ∃ b, b = w1.heap.size := ⟨_, rfl⟩
    obtain ⟨u1, hu1⟩ : ∃ u, u = (w1.alloc (.cells #[.slice D m cd] 37)) := ⟨_, rfl⟩
    rw [← hu1] at rd pK hA1 hy1
    rw [← hbq1a] at pK
    clear hx1
    go_upto_region 4 with fail
    rw [← hu1]
    rw [← hbq1a]
    clear hu1 hbq1a
    have pKq0 : u1.cell? ⟨b1a, 0, none⟩ = some (.slice D m cd) := pK.cell 0
    have pKz := pK.lt
    go_wp2_with fail
    refine (C1 u1 rd).mono ?_
    rintro e w2 ⟨rfl, hb2⟩
    clear pKq0 pKz
    have hs2 := hb2.size
    replace pK := pK.below hb2 pK.lt
    replace rd := (rd.below hb2).more hs2
    have hB2 : Below w.heap.size w w2 := hA1.trans (hb2.mono hA1.size)
    have pKq0 : w2.cell? ⟨b1a, 0, none⟩ = some (.slice D m cd) := pK.cell 0
    have pKz := pK.lt
    go_wp2_with fail
    refine (C2 w2 rd).mono ?_
    rintro e w3 ⟨rfl, hb3⟩
    clear pKq0 pKz
    have hs3 := hb3.size
    replace pK := pK.below hb3 pK.lt
    replace rd := (rd.below hb3).more hs3
    have hB3 : Below w.heap.size w w3 := hB2.trans (hb3.mono hB2.size)
    have pKq0 : w3.cell? ⟨b1a, 0, none⟩ = some (.slice D m cd) := pK.cell 0
    have pKz := pK.lt
    go_wp2_with fail
    refine (C3 w3 rd).mono ?_
    rintro e w4 ⟨E, ce, rfl, -, hb4⟩
    clear pKq0 pKz
    have hs4 := hb4.size
    replace pK := pK.below hb4 pK.lt
    replace rd := (rd.below hb4).more hs4
    have hB4 : Below w.heap.size w w4 := hB3.trans (hb4.mono hB3.size)
    have pKq0 : w4.cell? ⟨b1a, 0, none⟩ = some (.slice D m cd) := pK.cell 0
    have pKz := pK.lt
    go_wp2_with fail
    refine (C4 w4 rd).mono ?_
    rintro e w5 ⟨rfl, hb5⟩
    clear pKq0 pKz
    have hs5 := hb5.size
    replace pK := pK.below hb5 pK.lt
    replace rd := (rd.below hb5).more hs5
    have hB5 : Below w.heap.size w w5 := hB4.trans (hb5.mono hB4.size)
    have pKq0 : w5.cell? ⟨b1a, 0, none⟩ = some (.slice D m cd) := pK.cell 0
    have pKz := pK.lt
    go_wp2_with fail
    refine (C5 w5 rd).mono ?_
    rintro e w6 ⟨rfl, hb6⟩
    clear pKq0 pKz
    have hs6 := hb6.size
    replace pK := pK.below hb6 pK.lt
    replace rd := (rd.below hb6).more hs6
    have hB6 : Below w.heap.size w w6 := hB5.trans (hb6.mono hB5.size)
    have pKq0 : w6.cell? ⟨b1a, 0, none⟩ = some (.slice D m cd) := pK.cell 0
    have pKz := pK.lt
    go_wp2_with fail
    refine (C6 w6 rd).mono ?_
    rintro e w7 ⟨rfl, hb7⟩
    clear pKq0 pKz
    have hs7 := hb7.size
    replace pK := pK.below hb7 pK.lt
    replace rd := (rd.below hb7).more hs7
    have hB7 : Below w.heap.size w w7 := hB6.trans (hb7.mono hB6.size)
    go_wp2_with fail
    go_ret
    exact ⟨ret_bool (by simp), hB7⟩

theorem bys_up {w : World} {B B' n : Nat} {A : Option Addr} (h : Bys w B A n) (hB : B ≤ B') : Bys w B' A n :=
  ⟨h.1, fun k hk => by
    obtain ⟨b, off, z, e, hb, hc⟩ := h.2 k hk
    exact ⟨b, off, z, e, by omega, hc⟩⟩
theorem gapF_pre (m : Nat) (R : Nat → Rn) (name jo a : Int) : ∀ {x N : Nat}, x ≤ N → ∃ ys, gapF m R name jo a N = gapF m R name jo a x ++ ys
  | x, 0, h => by
    obtain rfl : x = 0 := by omega
    exact ⟨[], by simp⟩
  | x, N + 1, h => by
    by_cases e : x = N + 1
    · subst e; exact ⟨[], by simp⟩
    · obtain ⟨ys, hy⟩ := gapF_pre m R name jo a (show x ≤ N by omega)
      rw [gapF, hy]
      split
      · exact ⟨ys ++ [a + (N : Int)], by rw [List.append_assoc]⟩
      · exact ⟨ys, rfl⟩
theorem gapF_at {m : Nat} {R : Nat → Rn} {name jo a : Int} {x N : Nat} (h : x < N) (hx : ruBest R name (a + (x : Int)) jo m = none) :
    (gapF m R name jo a (x + 1)).length = (gapF m R name jo a x).length + 1 ∧ (gapF m R name jo a x).length < (gapF m R name jo a N).length ∧ (gapF m R name jo a N).getD (gapF m R name jo a x).length 0 = a + (x : Int) := by
  have e : gapF m R name jo a (x + 1) = gapF m R name jo a x ++ [a + (x : Int)] := by rw [gapF, hx]; rfl
  obtain ⟨ys, hy⟩ := gapF_pre m R name jo a (show x + 1 ≤ N by omega)
  rw [hy, e]
  refine ⟨by simp, by simp only [List.length_append, List.length_cons, List.length_nil]; omega, ?_⟩
  rw [List.append_assoc, List.getD_eq_getElem?_getD, List.getElem?_append_right (Nat.le_refl _)]
  simp

set_option maxRecDepth 8000 in
set_option maxHeartbeats 3200000 in
theorem walkGaps (A : Option Addr) (n c : Nat) (w : World) (hb : Bys w w.heap.size A n) :
    Calls Try.prog 7 #[.slice A n c] w fun e w' => e = .returned (.bool true) ∧ Below w.heap.size w w' := by
  have hn := hb.1
  by_cases hbig : (1048576 : Int) < n
  · have hd : decide ((1048576 : Int) < n) = true := by simpa using hbig
    go_enter Try.func7, Try.ntmps7
    go_wp2_with fail
    refine (lBig _ _ _ _ (by omega)).mono ?_
    rintro e w' ⟨rfl, rfl⟩
    go_wp2_with fail
    go_ret
    exact ⟨rfl, Below.refl _ _⟩
  · have hbg : decide ((1048576 : Int) < n) = false := by simpa using hbig
    go_enter Try.func7, Try.ntmps7
    go_wp2_with fail
    refine (lBig _ _ _ _ (by omega)).mono ?_
    rintro e w' ⟨rfl, rfl⟩
    go_wp2_with fail
    refine (sDrawBookR _ _ _ _ hb).mono ?_
    rintro e w1 ⟨m, R, D, cd, mo, nm, rfl, hq, hmc, hcx, rd, hb1⟩
    have hs1 := hb1.size
    have hb0 := hb
    have hmo := hq.month
    obtain ⟨mo0, -⟩ := hmo
    have hx1 : Below w1.heap.size w1 (w1.alloc (.cells #[.slice D m cd] 37)) := (by (repeat (first | (with_reducible exact Below.refl _ _) | (with_reducible assumption) | (with_reducible refine Below.drew ?_) | (with_reducible refine below_drewN ?_ _) | ((with_reducible refine Below.setCell ?_ ?_ _); rotate_left; focus (first | (simp; done) | omega | (simp; omega))) | ((with_reducible refine Below.alloc ?_ ?_ _); rotate_left; focus (first | exact Nat.le_refl _ | omega | (simp; done) | (simp; omega))))))
    have hy1 := hx1.size
    replace rd := (rd.below hx1).more hy1
    have hA1 : Below w.heap.size w (w1.alloc (.cells #[.slice D m cd] 37)) := hb1.trans (hx1.mono hb1.size)
    have pK : Whole (w1.alloc (.cells #[.slice D m cd] 37)) (w1.heap.size) 37 #[.slice D m cd] := (Whole.new w1 37 #[.slice D m cd])
    obtain ⟨b1a, hbq1a⟩ : ∃ b, b = w1.heap.size := ⟨_, rfl⟩
    obtain ⟨u1, hu1⟩ : ∃ u, u = (w1.alloc (.cells #[.slice D m cd] 37)) := ⟨_, rfl⟩
    rw [← hu1] at rd pK hA1 hy1
    rw [← hbq1a] at pK
    clear hx1
    go_upto_region 4 with fail
    rw [← hu1]
    rw [← hbq1a]
    clear hu1 hbq1a
    have pKq0 : u1.cell? ⟨b1a, 0, none⟩ = some (.slice D m cd) := pK.cell 0
    have pKz := pK.lt
    go_wp2_with fail
    refine (sPlacesAt u1 A n c (bys_up (hb0.below hA1) hA1.size)).mono ?_
    rintro e w2 ⟨gp, cp, f, rfl, hp0, hp1, hp, hb2⟩
    clear pKq0 pKz
    have hs2 := hb2.size
    replace pK := pK.below hb2 pK.lt
    replace rd := (rd.below hb2).more hs2
    have hB2 : Below w.heap.size w w2 := hA1.trans (hb2.mono hA1.size)
    obtain ⟨p0, x0a, x0b⟩ := hp 0 (by omega)
    clear hp
    generalize f 0 = x0 at *
    have y0 := Int.emod_nonneg x0 (show (80 : Int) ≠ 0 by omega)
    have y1 := Int.emod_lt_of_pos x0 (show (0 : Int) < 80 by omega)
    have y2 : x0.tmod 80 = x0 % 80 := Int.tmod_eq_emod_of_nonneg x0a
    obtain ⟨jo, hjo⟩ : ∃ m, m = x0 % 80 := ⟨_, rfl⟩
    rw [← hjo] at y0 y1 y2
    clear hjo
    have hG : gapL m R nm jo 0 180 = gapF m R nm jo 0 180 := by rw [gapL, if_pos (by rw [hq.1]; rfl)]; rfl
    have C3 := fun (v : World) (hv : RdRu v v.heap.size D m R) => iGapsIn v D m cd R nm jo 0 180 hv hmc hcx hq.n
    rw [hG] at C3
    have RF : ∀ (v : World) (x : Nat), RdRu v v.heap.size D m R → Calls Try.prog 31 #[.agg #[.slice D m cd], .int .i64 nm, .int .i64 (x : Int), .int .i64 jo] v fun e w' => e = .returned (.int .i64 (ruNo (ruBest R nm (0 + (x : Int)) jo m))) ∧ Below v.heap.size v w' := fun v x hv => by
      have k := sRuleFor v D m cd R nm (x : Int) jo hv hmc hcx hq.n
      rw [ruleForL, if_pos hq.1] at k
      rw [Int.zero_add]
      exact k
    obtain ⟨xs, hxs⟩ : ∃ xs, xs = gapF m R nm jo 0 180 := ⟨_, rfl⟩
    obtain ⟨K, hK⟩ : ∃ K, K = xs.length := ⟨_, rfl⟩
    obtain ⟨gl, hgl⟩ : ∃ gl : Nat → Nat, gl = fun x => (gapF m R nm jo 0 x).length := ⟨_, rfl⟩
    obtain ⟨z, hz⟩ : ∃ z : Nat → Int, z = fun i => xs.getD i 0 := ⟨_, rfl⟩
    have G1 : ∀ x : Nat, x < 180 → ruBest R nm (0 + (x : Int)) jo m = none → gl (x + 1) = gl x + 1 ∧ gl x < K ∧ z (gl x) = (x : Int) := fun x hx h => by rw [hgl, hz, hK, hxs]; have k := gapF_at hx h; rw [Int.zero_add] at k; exact k
    have G2 : ∀ (x j : Nat), ruBest R nm (0 + (x : Int)) jo m = some j → gl (x + 1) = gl x := fun x j h => by rw [hgl]; show (gapF m R nm jo 0 (x + 1)).length = _; rw [gapF, h]; rfl
    have G3 : gl 0 = 0 := by rw [hgl]; rfl
    have G4 : gl 180 = K := by rw [hgl, hK, hxs]
    have hK2 : K ≤ 180 := by rw [hK, hxs]; exact gapF_len m R nm jo 0 180
    rw [← hxs] at C3
    have CG : ∀ (v : World), RdRu v v.heap.size D m R → Calls Try.prog 24 #[.agg #[.slice D m cd], .int .i64 nm, .int .i64 jo, .int .i64 0, .int .i64 180] v fun e w' => ∃ (E : Option Addr) (ce : Nat), e = .returned (.slice E K ce) ∧ RdI w' w'.heap.size E K z ∧ Below v.heap.size v w' := fun v hv => (C3 v hv).mono fun e w' h => by
      obtain ⟨E, ce, he, ho, hbl⟩ := h
      rw [hK, hz]
      exact ⟨E, ce, he, RdI.own ho (by omega), hbl⟩
    have HG1 := Lib.hid G1
    have HG2 := Lib.hid G2
    have HG3 := Lib.hid G3
    have HG4 := Lib.hid G4
    clear G1 G2 G3 G4 hG C3 hxs hK hgl hz hb hb0 hq
    have p0q : w2.cell? ⟨gp, 0, none⟩ = some (.int .i64 x0) := p0
    have pKq0 : w2.cell? ⟨b1a, 0, none⟩ = some (.slice D m cd) := pK.cell 0
    have pKz := pK.lt
    go_wp2_with fail
    refine (CG w2 rd).mono ?_
    rintro e w3 ⟨E, ce, rfl, hE, hb3⟩
    clear pKq0 pKz
    have hs3 := hb3.size
    replace pK := pK.below hb3 pK.lt
    replace rd := (rd.below hb3).more hs3
    have hB3 : Below w.heap.size w w3 := hB2.trans (hb3.mono hB2.size)
    clear p0 p0q CG
    have pKq0 : w3.cell? ⟨b1a, 0, none⟩ = some (.slice D m cd) := pK.cell 0
    have pKz := pK.lt
    go_wp2_with fail
    go_loopw [9, 10] (fun q i wr => ∃ x : Nat, x ≤ 180 ∧ i = .int .i64 (x : Int) ∧ q = .int .i64 (gl x : Int) ∧ Whole wr b1a 37 #[.slice D m cd] ∧ RdRu wr wr.heap.size D m R ∧ RdI wr wr.heap.size E K z ∧ Below w.heap.size w wr) (fun _ i _ => 180 - (intOf i).toNat)
    case atStart => exact ⟨0, by omega, rfl, by rw [HG3.out]; rfl, pK, rd, hE, hB3⟩
    case round =>
      clear pKq0 pKz
      clear pK rd hE hB3
      obtain ⟨x, hx, rfl, rfl, pK, rd, hE, hbr⟩ := hrel
      have hs9 := hbr.size
      by_cases hlt : x < 180
      · have hlt2 : (x : Int) < 180 := by omega
        have w1x : IntKind.i64.wrap ((x : Int) + 1) = (x : Int) + 1 := IntWalk.i64_in _ ⟨by omega, by omega⟩
        have RX := fun (v : World) (hv : RdRu v v.heap.size D m R) => RF v x hv
        have pKq : wr.cell? ⟨b1a, 0, none⟩ = some (.slice D m cd) := pK.cell 0
        have pKz := pK.lt
        cases hq : ruBest R nm (0 + (x : Int)) jo m with
        | none =>
          simp only [hq, ruNo] at RX
          obtain ⟨k1, k2, k3⟩ := HG1.out x hlt hq
          clear hq
          go_wp2_with fail
          refine (RX _ rd).mono ?_
          rintro e w9 ⟨rfl, hb9⟩
          clear pKq pKz
          have hs10 := hb9.size
          replace pK := pK.below hb9 pK.lt
          replace rd := (rd.below hb9).more hs10
          replace hE := (hE.below hb9).more hs10
          have hB9 := hbr.trans (hb9.mono hs9)
          obtain ⟨b, off, rfl, hbb, hc⟩ := hE.2 (gl x) k2
          rw [k3] at hc
          have k2i : (gl x : Int) < K := by omega
          have HK1 := Lib.hid k1
          clear k1 k3
          generalize gl x = kk at *
          have w1k : IntKind.i64.wrap ((kk : Int) + 1) = (kk : Int) + 1 := IntWalk.i64_in _ ⟨by omega, by omega⟩
          go_wp2_with fail
          go_roundw
          case rel => exact ⟨x + 1, by omega, by go_num, by rw [HK1.out]; go_num, pK, rd, hE, hB9⟩
          case measure => simp [intOf]; omega
        | some j =>
          simp only [hq, ruNo] at RX
          have HK1 := Lib.hid (HG2.out x j hq)
          have hj0 : 0 ≤ (j : Int) := by omega
          clear hq
          go_wp2_with fail
          refine (RX _ rd).mono ?_
          rintro e w9 ⟨rfl, hb9⟩
          clear pKq pKz
          have hs10 := hb9.size
          replace pK := pK.below hb9 pK.lt
          replace rd := (rd.below hb9).more hs10
          replace hE := (hE.below hb9).more hs10
          have hB9 := hbr.trans (hb9.mono hs9)
          go_wp2_with fail
          go_roundw
          case rel => exact ⟨x + 1, by omega, by go_num, by rw [HK1.out], pK, rd, hE, hB9⟩
          case measure => simp [intOf]; omega
      · obtain rfl : x = 180 := by omega
        rw [HG4.out]
        go_wp2_with fail
        go_ret
        exact ⟨ret_bool (by simp), hbr⟩

set_option maxRecDepth 8000 in
set_option maxHeartbeats 6400000 in
theorem walkRulesFor (A : Option Addr) (n c : Nat) (w : World) (hb : Bys w w.heap.size A n) :
    Calls Try.prog 4 #[.slice A n c] w fun e w' => e = .returned (.bool true) ∧ Below w.heap.size w w' := by
  have hn := hb.1
  by_cases hbig : (1048576 : Int) < n
  · have hd : decide ((1048576 : Int) < n) = true := by simpa using hbig
    go_enter Try.func4, Try.ntmps4
    go_wp2_with fail
    refine (lBig _ _ _ _ (by omega)).mono ?_
    rintro e w' ⟨rfl, rfl⟩
    go_wp2_with fail
    go_ret
    exact ⟨rfl, Below.refl _ _⟩
  · have hbg : decide ((1048576 : Int) < n) = false := by simpa using hbig
    go_enter Try.func4, Try.ntmps4
    go_wp2_with fail
    refine (lBig _ _ _ _ (by omega)).mono ?_
    rintro e w' ⟨rfl, rfl⟩
    go_wp2_with fail
    refine (sDrawBookR _ _ _ _ hb).mono ?_
    rintro e w1 ⟨m, R, D, cd, mo, nm, rfl, hq, hmc, hcx, rd, hb1⟩
    have hs1 := hb1.size
    have hb0 := hb
    have hx1 : Below w1.heap.size w1 (w1.alloc (.cells #[.slice D m cd] 37)) := (by (repeat (first | (with_reducible exact Below.refl _ _) | (with_reducible assumption) | (with_reducible refine Below.drew ?_) | (with_reducible refine below_drewN ?_ _) | ((with_reducible refine Below.setCell ?_ ?_ _); rotate_left; focus (first | (simp; done) | omega | (simp; omega))) | ((with_reducible refine Below.alloc ?_ ?_ _); rotate_left; focus (first | exact Nat.le_refl _ | omega | (simp; done) | (simp; omega))))))
    have hy1 := hx1.size
    replace rd := (rd.below hx1).more hy1
    have hA1 : Below w.heap.size w (w1.alloc (.cells #[.slice D m cd] 37)) := hb1.trans (hx1.mono hb1.size)
    have pK : Whole (w1.alloc (.cells #[.slice D m cd] 37)) (w1.heap.size) 37 #[.slice D m cd] := (Whole.new w1 37 #[.slice D m cd])
    obtain ⟨b1a, hbq1a⟩ : ∃ b, b = w1.heap.size := ⟨_, rfl⟩
    obtain ⟨u1, hu1⟩ : ∃ u, u = (w1.alloc (.cells #[.slice D m cd] 37)) := ⟨_, rfl⟩
    rw [← hu1] at rd pK hA1 hy1
    rw [← hbq1a] at pK
    clear hx1
    go_upto_region 4 with fail
    rw [← hu1]
    rw [← hbq1a]
    clear hu1 hbq1a
    have pKq0 : u1.cell? ⟨b1a, 0, none⟩ = some (.slice D m cd) := pK.cell 0
    have pKz := pK.lt
    go_wp2_with fail
    refine (sPlacesAt u1 A n c (bys_up (hb0.below hA1) hA1.size)).mono ?_
    rintro e w2 ⟨gp, cp, f, rfl, hp0, hp1, hp, hb2⟩
    clear pKq0 pKz
    have hs2 := hb2.size
    replace pK := pK.below hb2 pK.lt
    replace rd := (rd.below hb2).more hs2
    have hB2 : Below w.heap.size w w2 := hA1.trans (hb2.mono hA1.size)
    obtain ⟨p0, x0a, x0b⟩ := hp 0 (by omega)
    clear hp
    generalize f 0 = x0 at *
    have y0 := Int.emod_nonneg x0 (show (80 : Int) ≠ 0 by omega)
    have y1 := Int.emod_lt_of_pos x0 (show (0 : Int) < 80 by omega)
    have y2 : x0.tmod 80 = x0 % 80 := Int.tmod_eq_emod_of_nonneg x0a
    obtain ⟨jo, hjo⟩ : ∃ m, m = x0 % 80 := ⟨_, rfl⟩
    rw [← hjo] at y0 y1 y2
    clear hjo
    have C1 := fun (v : World) (hv : RdRu v v.heap.size D m R) => iRuleFor v D m cd R nm mo jo hv hmc hcx hq.n
    rw [show ruleForL m R nm mo jo = ruNo (ruBest R nm mo jo m) by rw [ruleForL, if_pos hq.1]] at C1
    have HA := Lib.hid (fun (j : Nat) (h : ruBest R nm mo jo m = some j) => ruBest_lt h)
    have HH := Lib.hid (fun (j : Nat) (h : ruBest R nm mo jo m = some j) => ruBest_hit h)
    have HX := Lib.hid (fun (i : Nat) (hi : i < m) (h : ruHit (R i).s nm mo jo = true) => ruBest_ex hi h)
    obtain ⟨Q, hQ⟩ : ∃ Q, Q = ruBest R nm mo jo m := ⟨_, rfl⟩
    rw [← hQ] at C1 HA HH HX
    clear hQ hq hb hb0
    have hml := rd.1
    cases Q with
    | none =>
      simp only [ruNo] at C1
      have p0q : w2.cell? ⟨gp, 0, none⟩ = some (.int .i64 x0) := p0
      have pKq0 : w2.cell? ⟨b1a, 0, none⟩ = some (.slice D m cd) := pK.cell 0
      have pKz := pK.lt
      go_wp2_with fail
      refine (C1 w2 rd).mono ?_
      rintro e w3 ⟨rfl, hb3⟩
      clear pKq0 pKz
      have hs3 := hb3.size
      replace pK := pK.below hb3 pK.lt
      replace rd := (rd.below hb3).more hs3
      have hB3 : Below w.heap.size w w3 := hB2.trans (hb3.mono hB2.size)
      clear p0 p0q C1
      have pKq0 : w3.cell? ⟨b1a, 0, none⟩ = some (.slice D m cd) := pK.cell 0
      have pKz := pK.lt
      go_wp2_with fail
      go_loopw [9] (fun i wr => ∃ k : Nat, k ≤ m ∧ i = .int .i64 (k : Int) ∧ Whole wr b1a 37 #[.slice D m cd] ∧ RdRu wr wr.heap.size D m R ∧ Below w.heap.size w wr) (fun i _ => m - (intOf i).toNat)
      case atStart => exact ⟨0, Nat.zero_le _, rfl, pK, rd, hB3⟩
      case round =>
        clear pKq0 pKz
        clear pK rd hB3
        obtain ⟨k, hk, rfl, pK, rd, hbr⟩ := hrel
        have hs9 := hbr.size
        have pKq : wr.cell? ⟨b1a, 0, none⟩ = some (.slice D m cd) := pK.cell 0
        have pKz := pK.lt
        by_cases hlt : k < m
        · have hrd := rd.2
          obtain ⟨⟨b, off, rfl, hbB, h0, h1, h2, h3, h4, h5, h6⟩, -⟩ := hrd k hlt
          have hlt2 : (k : Int) < m := by omega
          have hne : ¬ b = wr.heap.size := by omega
          have hne2 : ¬ b1a = wr.heap.size := by omega
          have w1k : IntKind.i64.wrap ((k : Int) + 1) = (k : Int) + 1 := IntWalk.i64_in _ ⟨by omega, by omega⟩
          obtain ⟨X, hX⟩ : ∃ X : Obj, X = .cells #[.int .i64 (R k).s.nm, .int .i64 (R k).s.fr, .int .i64 (R k).s.to, .int .i64 (R k).s.jo, .int .i64 (R k).s.ra, .int .i64 (R k).s.mo, .slice (R k).A (R k).n (R k).c] 29 := ⟨_, rfl⟩
          have pK2 := fun nq => (pK.alloc X).drewN nq
          have hb2 := fun nq => below_drewN ((Below.refl wr.heap.size wr).alloc (Nat.le_refl _) X) nq
          have rd2 := fun nq => (rd.below (hb2 nq)).more (hb2 nq).size
          have hb3 := fun nq => hbr.trans ((hb2 nq).mono hs9)
          rw [hX] at pK2 hb2 rd2 hb3
          have PK2 := Lib.hid pK2
          have RD2 := Lib.hid rd2
          have HB3 := Lib.hid hb3
          clear pK2 rd2 hb2 hb3 hX X rd pK hbr
          cases t1 : (R k).s.nm == nm
          · clear hrd
            go_wp2_with fail
            go_quiet (fail)
            go_wp2_with fail
            go_roundw
            case rel => exact ⟨k + 1, by omega, by go_num, PK2.out _, RD2.out _, HB3.out _⟩
            case measure => simp [intOf]; omega
          · skip
            cases t2 : decide ((R k).s.fr ≤ mo)
            · clear hrd
              go_wp2_with fail
              go_quiet (fail)
              go_wp2_with fail
              go_roundw
              case rel => exact ⟨k + 1, by omega, by go_num, PK2.out _, RD2.out _, HB3.out _⟩
              case measure => simp [intOf]; omega
            · skip
              cases t3 : decide (mo < (R k).s.to)
              · clear hrd
                go_wp2_with fail
                go_quiet (fail)
                go_wp2_with fail
                go_roundw
                case rel => exact ⟨k + 1, by omega, by go_num, PK2.out _, RD2.out _, HB3.out _⟩
                case measure => simp [intOf]; omega
              · skip
                cases t4 : decide (jo < (R k).s.jo)
                · clear hrd
                  go_wp2_with fail
                  go_quiet (fail)
                  go_wp2_with fail
                  go_roundw
                  case rel => exact ⟨k + 1, by omega, by go_num, PK2.out _, RD2.out _, HB3.out _⟩
                  case measure => simp [intOf]; omega
                · skip
                  have hh : ruHit (R k).s nm mo jo = true := by simp only [ruHit, t1, t2, t3, t4]; rfl
                  obtain ⟨j, hj⟩ := HX.out k hlt hh
                  cases hj
        · obtain rfl : k = m := by omega
          go_wp2_with fail
          go_ret
          exact ⟨rfl, hbr⟩
    | some q =>
      simp only [ruNo] at C1
      have hqm := HA.out q rfl
      have hqh := HH.out q rfl
      have HQH := Lib.hid hqh
      clear hqh
      have hq0 : ¬ (q : Int) < 0 := by omega
      have hq1 : (q : Int) < m := by omega
      have hq2 : ¬ (m : Int) ≤ q := by omega
      have p0q : w2.cell? ⟨gp, 0, none⟩ = some (.int .i64 x0) := p0
      have pKq0 : w2.cell? ⟨b1a, 0, none⟩ = some (.slice D m cd) := pK.cell 0
      have pKz := pK.lt
      go_wp2_with fail
      refine (C1 w2 rd).mono ?_
      rintro e w3 ⟨rfl, hb3⟩
      clear pKq0 pKz
      have hs3 := hb3.size
      replace pK := pK.below hb3 pK.lt
      replace rd := (rd.below hb3).more hs3
      have hB3 : Below w.heap.size w w3 := hB2.trans (hb3.mono hB2.size)
      clear p0 p0q C1
      have pKq0 : w3.cell? ⟨b1a, 0, none⟩ = some (.slice D m cd) := pK.cell 0
      have pKz := pK.lt
      go_wp2_with fail
      go_loopw [9] (fun i wr => ∃ k : Nat, k ≤ m ∧ i = .int .i64 (k : Int) ∧ Whole wr b1a 37 #[.slice D m cd] ∧ RdRu wr wr.heap.size D m R ∧ Below w.heap.size w wr) (fun i _ => m - (intOf i).toNat)
      case atStart => exact ⟨0, Nat.zero_le _, rfl, pK, rd, hB3⟩
      case round =>
        clear pKq0 pKz
        clear pK rd hB3
        obtain ⟨k, hk, rfl, pK, rd, hbr⟩ := hrel
        have hs9 := hbr.size
        have pKq : wr.cell? ⟨b1a, 0, none⟩ = some (.slice D m cd) := pK.cell 0
        have pKz := pK.lt
        by_cases hlt : k < m
        · have hrd := rd.2
          obtain ⟨⟨b, off, rfl, hbB, h0, h1, h2, h3, h4, h5, h6⟩, -⟩ := hrd k hlt
          have hlt2 : (k : Int) < m := by omega
          have hne : ¬ b = wr.heap.size := by omega
          have hne2 : ¬ b1a = wr.heap.size := by omega
          have w1k : IntKind.i64.wrap ((k : Int) + 1) = (k : Int) + 1 := IntWalk.i64_in _ ⟨by omega, by omega⟩
          obtain ⟨X, hX⟩ : ∃ X : Obj, X = .cells #[.int .i64 (R k).s.nm, .int .i64 (R k).s.fr, .int .i64 (R k).s.to, .int .i64 (R k).s.jo, .int .i64 (R k).s.ra, .int .i64 (R k).s.mo, .slice (R k).A (R k).n (R k).c] 29 := ⟨_, rfl⟩
          have pK2 := fun nq => (pK.alloc X).drewN nq
          have hb2 := fun nq => below_drewN ((Below.refl wr.heap.size wr).alloc (Nat.le_refl _) X) nq
          have rd2 := fun nq => (rd.below (hb2 nq)).more (hb2 nq).size
          have hb3 := fun nq => hbr.trans ((hb2 nq).mono hs9)
          rw [hX] at pK2 hb2 rd2 hb3
          have PK2 := Lib.hid pK2
          have RD2 := Lib.hid rd2
          have HB3 := Lib.hid hb3
          clear pK2 rd2 hb2 hb3 hX X rd pK hbr
          cases t1 : (R k).s.nm == nm
          · clear hrd
            go_wp2_with fail
            go_quiet (fail)
            go_wp2_with fail
            go_roundw
            case rel => exact ⟨k + 1, by omega, by go_num, PK2.out _, RD2.out _, HB3.out _⟩
            case measure => simp [intOf]; omega
          · skip
            cases t2 : decide ((R k).s.fr ≤ mo)
            · clear hrd
              go_wp2_with fail
              go_quiet (fail)
              go_wp2_with fail
              go_roundw
              case rel => exact ⟨k + 1, by omega, by go_num, PK2.out _, RD2.out _, HB3.out _⟩
              case measure => simp [intOf]; omega
            · skip
              cases t3 : decide (mo < (R k).s.to)
              · clear hrd
                go_wp2_with fail
                go_quiet (fail)
                go_wp2_with fail
                go_roundw
                case rel => exact ⟨k + 1, by omega, by go_num, PK2.out _, RD2.out _, HB3.out _⟩
                case measure => simp [intOf]; omega
              · skip
                cases t4 : decide (jo < (R k).s.jo)
                · clear hrd
                  go_wp2_with fail
                  go_quiet (fail)
                  go_wp2_with fail
                  go_roundw
                  case rel => exact ⟨k + 1, by omega, by go_num, PK2.out _, RD2.out _, HB3.out _⟩
                  case measure => simp [intOf]; omega
                · skip
                  have hh : ruHit (R k).s nm mo jo = true := by simp only [ruHit, t1, t2, t3, t4]; rfl
                  have hr := HQH.out.2 k hlt hh
                  obtain ⟨⟨b', off', he', -, g0, g1, g2, g3, g4, g5, g6⟩, -⟩ := hrd q hqm
                  obtain ⟨rfl, rfl⟩ : b = b' ∧ off = off' := by injection he' with e; injection e with e1 e2 e3; exact ⟨e1, e2⟩
                  clear he' hrd hh
                  have t5 : decide ((R q).s.ra < (R k).s.ra) = false := by simp; omega
                  clear hr
                  go_wp2_with fail
                  go_quiet (fail)
                  go_wp2_with fail
                  go_roundw
                  case rel => exact ⟨k + 1, by omega, by go_num, PK2.out _, RD2.out _, HB3.out _⟩
                  case measure => simp [intOf]; omega
        · obtain rfl : k = m := by omega
          have hrd := rd.2
          obtain ⟨⟨b, off, rfl, hbB, h0, h1, h2, h3, h4, h5, h6⟩, -⟩ := hrd q hqm
          have hne : ¬ b = wr.heap.size := by omega
          have hne2 : ¬ b1a = wr.heap.size := by omega
          have hh := HQH.out.1
          simp only [ruHit, Bool.and_eq_true, decide_eq_true_eq, beq_iff_eq] at hh
          obtain ⟨e1, e2, e3, e4⟩ := hh
          have t1 : ((R q).s.nm == nm) = true := by simpa using e1
          have t2 : decide ((R q).s.fr ≤ mo) = true := by simpa using e2
          have t3 : decide (mo < (R q).s.to) = true := by simpa using e3
          have t4 : decide (jo < (R q).s.jo) = true := by simpa using e4
          have hb3 := hbr.trans (((Below.refl wr.heap.size wr).alloc (Nat.le_refl _) (.cells #[.int .i64 (R q).s.nm, .int .i64 (R q).s.fr, .int .i64 (R q).s.to, .int .i64 (R q).s.jo, .int .i64 (R q).s.ra, .int .i64 (R q).s.mo, .slice (R q).A (R q).n (R q).c] 29)).mono hs9)
          clear e1 e2 e3 e4 rd hrd
          go_wp2_with fail
          go_ret
          exact ⟨ret_bool (by simp), hb3⟩
end Go.Proofs.Ytjnckhdmaebfdaa
