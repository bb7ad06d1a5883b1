/- Accounts, of the program and of the reference. Conditions: the numbers can be read. -/
import Derived.Test.YtjiinkbjmamdmaaIntS
import Derived.Test.YtjiinkbjmamdmaaAcctL
import Derived.Lib.Hide
namespace Go.Proofs.Ytjiinkbjmamdmaa
open Go.RowKit

set_option maxHeartbeats 400000 in
theorem notWithin (x lo hi : Int) (p q : Nat) (w : World) (hp : w.cell? ⟨p, 0, none⟩ = some (.int .i64 lo)) (hq : w.cell? ⟨q, 0, none⟩ = some (.int .i64 hi)) :
    Calls Try.prog 82 #[.int .i64 x, .pointer (some ⟨p, 0, none⟩), .pointer (some ⟨q, 0, none⟩)] w fun e w' => e = .returned (.bool (!inB x lo hi)) ∧ w = w' := by
  go_enter Try.func82, Try.ntmps82
  go_wp2_with fail
  refine (within_any _ _ _ _).mono ?_
  rintro e w' ⟨rfl, rfl⟩
  go_wp2_with fail
  go_ret
  exact ⟨rfl, rfl⟩

set_option maxHeartbeats 800000 in
theorem idxWithin (w : World) (B : Nat) (A : Option Addr) (n c : Nat) (z : Nat → Int) (h : RdI w B A n z) (lo hi : Int) (p q : Nat) (hp : w.cell? ⟨p, 0, none⟩ = some (.int .i64 lo)) (hq : w.cell? ⟨q, 0, none⟩ = some (.int .i64 hi)) :
    Calls Try.prog 59 #[.slice A n c, .func (.func 82) #[] #[.pointer (some ⟨p, 0, none⟩), .pointer (some ⟨q, 0, none⟩)]] w fun e w' => e = .returned (.int .i64 (idxFrom (fun x => !inB x lo hi) z n 0)) ∧ w = w' := by
  have hn := h.1
  obtain ⟨R, hR⟩ : ∃ R, R = idxFrom (fun x => !inB x lo hi) z n 0 := ⟨_, rfl⟩
  rw [← hR]
  have HR := Lib.hid hR.symm
  clear hR
  go_enter Try.func59, Try.ntmps59
  go_wp2_with fail
  go_loop [8] (fun i => ∃ k : Nat, k ≤ n ∧ i = .int .i64 k ∧ Hid (idxFrom (fun x => !inB x lo hi) z (n - k) k = R)) (fun i => n - (intOf i).toNat)
  case atStart => exact ⟨0, Nat.zero_le _, rfl, HR⟩
  case round =>
    obtain ⟨k, hk, rfl, HK⟩ := hrel
    clear HR
    by_cases hlt : k < n
    · obtain ⟨b, off, rfl, hbB, hcell⟩ := h.2 k hlt
      go_wp2_with fail
      refine (notWithin _ lo hi p q _ hp hq).mono ?_
      rintro e w' ⟨rfl, rfl⟩
      cases hP : (fun x => !inB x lo hi) (z k)
      · have HN := Lib.hid ((idx_miss (P := (fun x => !inB x lo hi)) hlt hP).symm.trans HK.out)
        simp only [hP]
        dsimp only at hP
        go_wp2_with fail
        go_round
        case rel => exact ⟨k + 1, by omega, by go_num, HN⟩
        case measure => simp [intOf]; omega
      · have HN := Lib.hid ((idx_hit (P := (fun x => !inB x lo hi)) hlt hP).symm.trans HK.out)
        simp only [hP]
        dsimp only at hP
        go_wp2_with fail
        go_ret
        exact ⟨ret_int HN.out, rfl⟩
    · obtain rfl : k = n := by omega
      have HN := Lib.hid (show (-1 : Int) = R by rw [← HK.out, Nat.sub_self]; rfl)
      go_wp2_with fail
      go_ret
      exact ⟨ret_int HN.out, rfl⟩

set_option maxHeartbeats 800000 in
theorem conWithin (w : World) (B : Nat) (A : Option Addr) (n c : Nat) (z : Nat → Int) (h : RdI w B A n z) (lo hi : Int) (p q : Nat) (hp : w.cell? ⟨p, 0, none⟩ = some (.int .i64 lo)) (hq : w.cell? ⟨q, 0, none⟩ = some (.int .i64 hi)) :
    Calls Try.prog 81 #[.slice A n c, .func (.func 82) #[] #[.pointer (some ⟨p, 0, none⟩), .pointer (some ⟨q, 0, none⟩)]] w fun e w' => e = .returned (.bool (!allIn z lo hi n)) ∧ w = w' := by
  have e : (!allIn z lo hi n) = decide (0 ≤ idxFrom (fun x => !inB x lo hi) z n 0) := by
    cases ha : allIn z lo hi n
    · have : ∃ i, i < n ∧ inB (z i) lo hi = false := by
        refine Classical.byContradiction fun hno => ?_
        have := allIn_mk (z := z) (lo := lo) (hi := hi) (n := n) fun i hi' => by
          cases hb : inB (z i) lo hi with
          | true => rfl
          | false => exact absurd ⟨i, hi', hb⟩ hno
        rw [ha] at this
        cases this
      obtain ⟨i, hi1, hi2⟩ := this
      have := idxFrom_pos (P := (fun x => !inB x lo hi)) (z := z) n 0 i (Nat.zero_le _) (by omega) (by simp [hi2])
      simp [this]
    · have := idxFrom_neg (P := (fun x => !inB x lo hi)) (z := z) n 0 fun i _ hi2 => by simp [inB_iff.2 (allIn_at ha i (by omega))]
      rw [this]
      rfl
  rw [e]
  have E := Lib.hid e
  clear e
  go_enter Try.func81, Try.ntmps81
  go_wp2_with fail
  refine (idxWithin w B A n c z h lo hi p q hp hq).mono ?_
  rintro e w' ⟨rfl, rfl⟩
  go_wp2_with fail
  go_ret
  exact ⟨rfl, rfl⟩

set_option maxHeartbeats 800000 in
theorem iAllWithin (w : World) (A : Option Addr) (n c : Nat) (z : Nat → Int) (h : RdI w w.heap.size A n z) (lo hi : Int) :
    Calls Try.prog 75 #[.slice A n c, .int .i64 lo, .int .i64 hi] w fun e w' => e = .returned (.bool (allIn z lo hi n)) ∧ Below w.heap.size w w' := by
  have hb : Below w.heap.size w ((w.alloc (.cells #[.int .i64 lo] 3)).alloc (.cells #[.int .i64 hi] 3)) := by (repeat (first | (with_reducible exact Below.refl _ _) | (with_reducible assumption) | (with_reducible refine Below.drew ?_) | (with_reducible refine below_drewN ?_ _) | ((with_reducible refine Below.setCell ?_ ?_ _); rotate_left; focus (first | (simp; done) | omega | (simp; omega))) | ((with_reducible refine Below.alloc ?_ ?_ _); rotate_left; focus (first | exact Nat.le_refl _ | omega | (simp; done) | (simp; omega)))))
  have h2 := h.below hb
  go_enter Try.func75, Try.ntmps75
  go_wp2_with fail
  refine (conWithin _ w.heap.size A n c z h2 lo hi w.heap.size (w.heap.size + 1) (by simp [go_sem]) (by simp [go_sem])).mono ?_
  rintro e w' ⟨rfl, rfl⟩
  go_wp2_with fail
  go_ret
  exact ⟨ret_bool (by simp), hb⟩

theorem elemD (w : World) (m : Nat) (t : TypeId) (x : Value) : ∀ (j : Nat) (u : Value), [x][j]? = some u → ((w.drewN m).alloc (.cells #[x] t)).cell? (Addr.add ⟨w.heap.size, 0, none⟩ j) = some u := by
  intro j u hj
  match j, hj with
  | 0, hj =>
    simp at hj; subst hj
    show ((w.drewN m).alloc (.cells #[x] t)).cell? ⟨(w.drewN m).heap.size, 0, none⟩ = some x
    generalize w.drewN m = w'
    simp [go_sem]
theorem mulDiv_le2 {b c r : Int} (h0 : 0 < b) (h1 : b ≤ c) (h2 : 0 ≤ r) (h3 : r ≤ 500) : 0 ≤ b * r / 12000 ∧ b * r / 12000 ≤ c := by
  have := mulDiv_le h0 h1 h2 h3
  omega
theorem ask_no1 {n n' : Nat} {d p : Nat → Int} {rate : Int} (h : ((n : Int) != n') = true) : askB n n' d p rate = false := by
  have : ¬ n = n' := by intro e; subst e; simp at h
  simp [askB, this]
theorem ask_no2 {n n' : Nat} {d p : Nat → Int} {rate : Int} (h : decide ((300 : Int) < n) = true) : askB n n' d p rate = false := by
  have : ¬ n ≤ 300 := by simp at h; omega
  simp [askB, this]

set_option maxHeartbeats 3200000 in
theorem iAccount (w : World) (A A' : Option Addr) (n n' c c' : Nat) (d p : Nat → Int) (rate : Int) (hd : RdI w w.heap.size A n d) (hpd : RdI w w.heap.size A' n' p) :
    Calls Try.prog 58 #[.slice A n c, .slice A' n' c', .int .i64 rate] w fun e w' => ∃ v : Value, e = .returned (.tuple #[v, .int .i64 (accSum n n' d p rate)]) ∧ w'.ownsRow w.heap.size 3 1 v (accList n n' d p rate).length ((accList n n' d p rate).map (Value.int .i64)) ∧ Below w.heap.size w w' := by
  have hn := hd.1
  have hn' := hpd.1
  cases t1 : ((n : Int) != n')
  · cases t2 : decide ((300 : Int) < n)
    · cases t3 : allIn d 0 10000000 n
      · have hask : askB n n' d p rate = false := by simp [askB, t3]
        rw [show accList n n' d p rate = [] by rw [accList, hask]; rfl, show accSum n n' d p rate = 0 by rw [accSum, hask]; rfl]
        clear hask
        go_enter Try.func58, Try.ntmps58
        go_wp2_with fail
        refine (iAllWithin w A n c d hd 0 10000000).mono ?_
        rintro e w1 ⟨rfl, hb1⟩
        obtain ⟨hc1, hf1⟩ := keepc hb1
        have hs1 : w.heap.size ≤ w1.heap.size := (by have := hb1.size; first | omega | (simp at this; omega))
        have hB1 : Below w.heap.size w w1 := (by refine Below.trans ?_ (hb1.mono (by first | omega | (simp; done) | (simp; omega))); (repeat (first | (with_reducible exact Below.refl _ _) | (with_reducible assumption) | (with_reducible refine Below.drew ?_) | (with_reducible refine below_drewN ?_ _) | ((with_reducible refine Below.setCell ?_ ?_ _); rotate_left; focus (first | (simp; done) | omega | (simp; omega))) | ((with_reducible refine Below.alloc ?_ ?_ _); rotate_left; focus (first | exact Nat.le_refl _ | omega | (simp; done) | (simp; omega))))))
        go_wp2_with fail
        go_ret2
        exact ⟨_, rfl, World.ownsRow_nil _ _ _ _, (by (repeat (first | (with_reducible exact Below.refl _ _) | (with_reducible assumption) | (with_reducible refine Below.drew ?_) | (with_reducible refine below_drewN ?_ _) | ((with_reducible refine Below.setCell ?_ ?_ _); rotate_left; focus (first | (simp; done) | omega | (simp; omega))) | ((with_reducible refine Below.alloc ?_ ?_ _); rotate_left; focus (first | exact Nat.le_refl _ | omega | (simp; done) | (simp; omega))))))⟩
      · cases t4 : allIn p 0 10000000 n'
        · have hask : askB n n' d p rate = false := by simp [askB, t4]
          rw [show accList n n' d p rate = [] by rw [accList, hask]; rfl, show accSum n n' d p rate = 0 by rw [accSum, hask]; rfl]
          clear hask
          go_enter Try.func58, Try.ntmps58
          go_wp2_with fail
          refine (iAllWithin w A n c d hd 0 10000000).mono ?_
          rintro e w1 ⟨rfl, hb1⟩
          obtain ⟨hc1, hf1⟩ := keepc hb1
          have hs1 : w.heap.size ≤ w1.heap.size := (by have := hb1.size; first | omega | (simp at this; omega))
          have hB1 : Below w.heap.size w w1 := (by refine Below.trans ?_ (hb1.mono (by first | omega | (simp; done) | (simp; omega))); (repeat (first | (with_reducible exact Below.refl _ _) | (with_reducible assumption) | (with_reducible refine Below.drew ?_) | (with_reducible refine below_drewN ?_ _) | ((with_reducible refine Below.setCell ?_ ?_ _); rotate_left; focus (first | (simp; done) | omega | (simp; omega))) | ((with_reducible refine Below.alloc ?_ ?_ _); rotate_left; focus (first | exact Nat.le_refl _ | omega | (simp; done) | (simp; omega))))))
          have hpd1 : RdI w1 w1.heap.size A' n' p := (hpd.below hB1).more hB1.size
          go_wp2_with fail
          refine (iAllWithin w1 A' n' c' p (hpd1) 0 10000000).mono ?_
          rintro e w2 ⟨rfl, hb2⟩
          obtain ⟨hc2, hf2⟩ := keepc hb2
          have hs2 : w.heap.size ≤ w2.heap.size := (by have := hb2.size; first | omega | (simp at this; omega))
          have hB2 : Below w.heap.size w w2 := (by refine Below.trans ?_ (hb2.mono (by first | omega | (simp; done) | (simp; omega))); (repeat (first | (with_reducible exact Below.refl _ _) | (with_reducible assumption) | (with_reducible refine Below.drew ?_) | (with_reducible refine below_drewN ?_ _) | ((with_reducible refine Below.setCell ?_ ?_ _); rotate_left; focus (first | (simp; done) | omega | (simp; omega))) | ((with_reducible refine Below.alloc ?_ ?_ _); rotate_left; focus (first | exact Nat.le_refl _ | omega | (simp; done) | (simp; omega))))))
          go_wp2_with fail
          go_ret2
          exact ⟨_, rfl, World.ownsRow_nil _ _ _ _, (by (repeat (first | (with_reducible exact Below.refl _ _) | (with_reducible assumption) | (with_reducible refine Below.drew ?_) | (with_reducible refine below_drewN ?_ _) | ((with_reducible refine Below.setCell ?_ ?_ _); rotate_left; focus (first | (simp; done) | omega | (simp; omega))) | ((with_reducible refine Below.alloc ?_ ?_ _); rotate_left; focus (first | exact Nat.le_refl _ | omega | (simp; done) | (simp; omega))))))⟩
        · cases t5 : inB rate 0 500
          · have hask : askB n n' d p rate = false := by simp [askB, t5]
            rw [show accList n n' d p rate = [] by rw [accList, hask]; rfl, show accSum n n' d p rate = 0 by rw [accSum, hask]; rfl]
            clear hask
            go_enter Try.func58, Try.ntmps58
            go_wp2_with fail
            refine (iAllWithin w A n c d hd 0 10000000).mono ?_
            rintro e w1 ⟨rfl, hb1⟩
            obtain ⟨hc1, hf1⟩ := keepc hb1
            have hs1 : w.heap.size ≤ w1.heap.size := (by have := hb1.size; first | omega | (simp at this; omega))
            have hB1 : Below w.heap.size w w1 := (by refine Below.trans ?_ (hb1.mono (by first | omega | (simp; done) | (simp; omega))); (repeat (first | (with_reducible exact Below.refl _ _) | (with_reducible assumption) | (with_reducible refine Below.drew ?_) | (with_reducible refine below_drewN ?_ _) | ((with_reducible refine Below.setCell ?_ ?_ _); rotate_left; focus (first | (simp; done) | omega | (simp; omega))) | ((with_reducible refine Below.alloc ?_ ?_ _); rotate_left; focus (first | exact Nat.le_refl _ | omega | (simp; done) | (simp; omega))))))
            have hpd1 : RdI w1 w1.heap.size A' n' p := (hpd.below hB1).more hB1.size
            go_wp2_with fail
            refine (iAllWithin w1 A' n' c' p (hpd1) 0 10000000).mono ?_
            rintro e w2 ⟨rfl, hb2⟩
            obtain ⟨hc2, hf2⟩ := keepc hb2
            have hs2 : w.heap.size ≤ w2.heap.size := (by have := hb2.size; first | omega | (simp at this; omega))
            have hB2 : Below w.heap.size w w2 := (by refine Below.trans ?_ (hb2.mono (by first | omega | (simp; done) | (simp; omega))); (repeat (first | (with_reducible exact Below.refl _ _) | (with_reducible assumption) | (with_reducible refine Below.drew ?_) | (with_reducible refine below_drewN ?_ _) | ((with_reducible refine Below.setCell ?_ ?_ _); rotate_left; focus (first | (simp; done) | omega | (simp; omega))) | ((with_reducible refine Below.alloc ?_ ?_ _); rotate_left; focus (first | exact Nat.le_refl _ | omega | (simp; done) | (simp; omega))))))
            go_wp2_with fail
            refine (within_any _ _ _ _).mono ?_
            rintro e w' ⟨rfl, rfl⟩
            go_wp2_with fail
            go_ret2
            exact ⟨_, rfl, World.ownsRow_nil _ _ _ _, (by (repeat (first | (with_reducible exact Below.refl _ _) | (with_reducible assumption) | (with_reducible refine Below.drew ?_) | (with_reducible refine below_drewN ?_ _) | ((with_reducible refine Below.setCell ?_ ?_ _); rotate_left; focus (first | (simp; done) | omega | (simp; omega))) | ((with_reducible refine Below.alloc ?_ ?_ _); rotate_left; focus (first | exact Nat.le_refl _ | omega | (simp; done) | (simp; omega))))))⟩
          · have hnn0 : n = n' := by simp at t1; omega
            subst hnn0
            have hask : askB n n d p rate = true := by
              have h3 : n ≤ 300 := by simp at t2; omega
              simp [askB, t3, t4, t5, h3]
            rw [show accList n n d p rate = accOuts rate d p n by rw [accList, hask]; rfl, show accSum n n d p rate = (accAt rate d p n).2 by rw [accSum, hask]; rfl]
            obtain ⟨-, hn3, hdb0, hpb0, hr0, hr1⟩ := askB_yes hask
            have hdb := Lib.hid hdb0
            have hpb := Lib.hid hpb0
            clear hdb0 hpb0 hask
            obtain ⟨i0, hi, hz0, hz1, hz2⟩ := info_parts int_inf
            go_enter Try.func58, Try.ntmps58
            go_wp2_with fail
            refine (iAllWithin w A n c d hd 0 10000000).mono ?_
            rintro e w1 ⟨rfl, hb1⟩
            obtain ⟨hc1, hf1⟩ := keepc hb1
            have hs1 : w.heap.size ≤ w1.heap.size := (by have := hb1.size; first | omega | (simp at this; omega))
            have hB1 : Below w.heap.size w w1 := (by refine Below.trans ?_ (hb1.mono (by first | omega | (simp; done) | (simp; omega))); (repeat (first | (with_reducible exact Below.refl _ _) | (with_reducible assumption) | (with_reducible refine Below.drew ?_) | (with_reducible refine below_drewN ?_ _) | ((with_reducible refine Below.setCell ?_ ?_ _); rotate_left; focus (first | (simp; done) | omega | (simp; omega))) | ((with_reducible refine Below.alloc ?_ ?_ _); rotate_left; focus (first | exact Nat.le_refl _ | omega | (simp; done) | (simp; omega))))))
            have hpd1 : RdI w1 w1.heap.size A' n p := (hpd.below hB1).more hB1.size
            go_wp2_with fail
            refine (iAllWithin w1 A' n c' p (hpd1) 0 10000000).mono ?_
            rintro e w2 ⟨rfl, hb2⟩
            obtain ⟨hc2, hf2⟩ := keepc hb2
            have hs2 : w.heap.size ≤ w2.heap.size := (by have := hb2.size; first | omega | (simp at this; omega))
            have hB2 : Below w.heap.size w w2 := (by refine Below.trans ?_ (hb2.mono (by first | omega | (simp; done) | (simp; omega))); (repeat (first | (with_reducible exact Below.refl _ _) | (with_reducible assumption) | (with_reducible refine Below.drew ?_) | (with_reducible refine below_drewN ?_ _) | ((with_reducible refine Below.setCell ?_ ?_ _); rotate_left; focus (first | (simp; done) | omega | (simp; omega))) | ((with_reducible refine Below.alloc ?_ ?_ _); rotate_left; focus (first | exact Nat.le_refl _ | omega | (simp; done) | (simp; omega))))))
            go_wp2_with fail
            refine (within_any _ _ _ _).mono ?_
            rintro e w' ⟨rfl, rfl⟩
            go_wp2_with fail
            have hz := hB2.size
            go_loopw [8, 9, 10, 41] (fun v x y i wr => ∃ k : Nat, k ≤ n ∧ i = .int .i64 k ∧ wr.ownsRow w.heap.size 3 1 v k ((accOuts rate d p k).map (Value.int .i64)) ∧ x = .int .i64 (accAt rate d p k).1 ∧ y = .int .i64 (accAt rate d p k).2 ∧ Below w.heap.size w wr) (fun _ _ _ i _ => n - (intOf i).toNat)
            case atStart => exact ⟨0, Nat.zero_le _, rfl, own_empty _ _ _ _ hz, rfl, rfl, hB2.alloc hz _⟩
            case round =>
              obtain ⟨k, hk, rfl, hown, rfl, rfl, hbr⟩ := hrel
              have hab := accAt_bd hr0 hr1 hdb.out hpb.out hn3 k hk
              have hcl := capA_le k (by omega)
              obtain ⟨s, hs⟩ : ∃ s, s = accAt rate d p k := ⟨_, rfl⟩
              rw [← hs] at hab ⊢
              have HS := Lib.hid hs
              clear hs
              obtain ⟨b, t⟩ := s
              dsimp only at hab ⊢
              obtain ⟨ha1, ha2, ha3, ha4⟩ := hab
              have hl1 : b ≤ 60000000000000 := by omega
              clear ha1 hcl
              by_cases hlt : k < n
              · obtain ⟨bd, offd, rfl, hbd, hcd⟩ := hd.2 k hlt
                obtain ⟨bp, offp, rfl, hbp, hcp⟩ := hpd.2 k (by omega)
                have ccd : wr.cell? ⟨bd, offd + k, none⟩ = some (.int .i64 (d k)) := (hbr.cell (p := ⟨bd, offd + k, none⟩) hbd).trans hcd
                have ccp : wr.cell? ⟨bp, offp + k, none⟩ = some (.int .i64 (p k)) := (hbr.cell (p := ⟨bp, offp + k, none⟩) hbp).trans hcp
                have hlt2 : (k : Int) < n := by omega
                have hdk := hdb.out k hlt
                have hpk := hpb.out k hlt
                obtain ⟨hdk1, hdk2⟩ := hdk
                obtain ⟨hpk1, hpk2⟩ := hpk
                clear hcd hcp
                by_cases hp : 0 < b
                · have hm := mulDiv_le2 hp hl1 hr0 hr1
                  obtain ⟨hm1, hm2⟩ := hm
                  have hm3 : 0 ≤ b * rate := Int.mul_nonneg (by omega) hr0
                  have hm4 : b * rate ≤ 60000000000000 * 500 := Int.mul_le_mul hl1 hr1 hr0 (by omega)
                  have hs1 : accAt rate d p (k + 1) = (b + b * rate / 12000 + (d k - p k), t + b * rate / 12000) := by rw [accAt, ← HS.out, accStep]; rw [if_pos hp]
                  have HS1 := Lib.hid hs1
                  clear hs1
                  have hx1 : (accAt rate d p (k + 1)).1 = b + b * rate / 12000 + (d k - p k) := by rw [HS1.out]
                  have HX1 := Lib.hid hx1
                  clear hx1
                  go_wp2_with (at_builtin; refine wpList_append_own_at _ rfl _ _ 36 rfl w.heap.size 3 i0 (.int .i64 0) 1 8 Try.underlying36 hi hz0 hz1 hz2 rfl (by decide) _ _ _ rfl (hown.alloc _) ⟨wr.heap.size, 0, none⟩ 1 1 [.int .i64 (b + b * rate / 12000 + (d k - p k))] rfl rfl ?c1p ?c2p ?c3p ?c4p ?c5p ?_)
                  try (case c1p => (first | (exact elemD _ _ _ _) | (intro j u hj; match j, hj with | 0, hj => simp at hj; subst hj; (first | (simp [Addr.add]; done) | (simp [Addr.add, go_sem]; done))) | (simp [go_sem, Addr.add]; done)))
                  case c2p => (first | rfl | (intro u hu; simp at hu; subst hu; rfl))
                  case c3p => unfold maxLen; omega
                  case c4p => omega
                  case c5p => have := hbr.size; simp; omega
                  intro v' w3 hown3 hg3 _ hat
                  go_wp2
                  go_roundw
                  case rel =>
                    refine ⟨k + 1, by omega, by go_num, ?_, by rw [HX1.out], by rw [HS1.out], (hbr.alloc hbr.size _).grown hg3 (by simp; have := hbr.size; omega) (fun q hq => (hown.lt q hq).1)⟩
                    rw [accOuts_succ, List.map_append, HX1.out]
                    skip
                    skip
                    exact hown3
                  case measure => simp [intOf]; omega
                · have hs1 : accAt rate d p (k + 1) = (b + (d k - p k), t) := by rw [accAt, ← HS.out, accStep]; rw [if_neg hp]
                  have HS1 := Lib.hid hs1
                  clear hs1
                  have hx1 : (accAt rate d p (k + 1)).1 = b + (d k - p k) := by rw [HS1.out]
                  have HX1 := Lib.hid hx1
                  clear hx1
                  go_wp2_with (at_builtin; refine wpList_append_own_at _ rfl _ _ 36 rfl w.heap.size 3 i0 (.int .i64 0) 1 8 Try.underlying36 hi hz0 hz1 hz2 rfl (by decide) _ _ _ rfl (hown.alloc _) ⟨wr.heap.size, 0, none⟩ 1 1 [.int .i64 (b + (d k - p k))] rfl rfl ?c1n ?c2n ?c3n ?c4n ?c5n ?_)
                  try (case c1n => (first | (exact elemD _ _ _ _) | (intro j u hj; match j, hj with | 0, hj => simp at hj; subst hj; (first | (simp [Addr.add]; done) | (simp [Addr.add, go_sem]; done))) | (simp [go_sem, Addr.add]; done)))
                  case c2n => (first | rfl | (intro u hu; simp at hu; subst hu; rfl))
                  case c3n => unfold maxLen; omega
                  case c4n => omega
                  case c5n => have := hbr.size; simp; omega
                  intro v' w3 hown3 hg3 _ hat
                  go_wp2
                  go_roundw
                  case rel =>
                    refine ⟨k + 1, by omega, by go_num, ?_, by rw [HX1.out], by rw [HS1.out], (hbr.alloc hbr.size _).grown hg3 (by simp; have := hbr.size; omega) (fun q hq => (hown.lt q hq).1)⟩
                    rw [accOuts_succ, List.map_append, HX1.out]
                    skip
                    skip
                    exact hown3
                  case measure => simp [intOf]; omega
              · obtain rfl : k = n := by omega
                go_wp2_with fail
                go_ret2
                refine ⟨_, ?_, by rw [accOuts_len]; exact hown, hbr⟩
                rw [← HS.out]
                try rfl
    · have hask := (ask_no2 t2 : askB n n' d p rate = false)
      rw [show accList n n' d p rate = [] by rw [accList, hask]; rfl, show accSum n n' d p rate = 0 by rw [accSum, hask]; rfl]
      clear hask
      go_enter Try.func58, Try.ntmps58
      go_wp2_with fail
      go_ret2
      exact ⟨_, rfl, World.ownsRow_nil _ _ _ _, (by (repeat (first | (with_reducible exact Below.refl _ _) | (with_reducible assumption) | (with_reducible refine Below.drew ?_) | (with_reducible refine below_drewN ?_ _) | ((with_reducible refine Below.setCell ?_ ?_ _); rotate_left; focus (first | (simp; done) | omega | (simp; omega))) | ((with_reducible refine Below.alloc ?_ ?_ _); rotate_left; focus (first | exact Nat.le_refl _ | omega | (simp; done) | (simp; omega))))))⟩
  · have hask := (ask_no1 t1 : askB n n' d p rate = false)
    rw [show accList n n' d p rate = [] by rw [accList, hask]; rfl, show accSum n n' d p rate = 0 by rw [accSum, hask]; rfl]
    clear hask
    go_enter Try.func58, Try.ntmps58
    go_wp2_with fail
    go_ret2
    exact ⟨_, rfl, World.ownsRow_nil _ _ _ _, (by (repeat (first | (with_reducible exact Below.refl _ _) | (with_reducible assumption) | (with_reducible refine Below.drew ?_) | (with_reducible refine below_drewN ?_ _) | ((with_reducible refine Below.setCell ?_ ?_ _); rotate_left; focus (first | (simp; done) | omega | (simp; omega))) | ((with_reducible refine Below.alloc ?_ ?_ _); rotate_left; focus (first | exact Nat.le_refl _ | omega | (simp; done) | (simp; omega))))))⟩
end Go.Proofs.Ytjiinkbjmamdmaa
