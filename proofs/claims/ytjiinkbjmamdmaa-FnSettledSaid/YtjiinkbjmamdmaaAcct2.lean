/- An account's balances, interest and first arrears, of both packages. Conditions: the numbers can be read. -/
import Derived.Test.YtjiinkbjmamdmaaAcct
namespace Go.Proofs.Ytjiinkbjmamdmaa
open Go.RowKit

theorem own_slice {w : World} {base size n : Nat} {e : TypeId} {v : Value} {xs : List Value} (h : w.ownsRow base e size v n xs) : ∃ A c, v = .slice A n c := by
  rcases h.2 with ⟨rfl, rfl⟩ | ⟨g, cap, cur, rfl, _⟩
  · exact ⟨_, _, rfl⟩
  · exact ⟨_, _, rfl⟩
theorem accList_len (n n' : Nat) (d p : Nat → Int) (rate : Int) : (accList n n' d p rate).length ≤ 300 := by
  unfold accList
  split
  · rename_i h
    rw [accOuts_len]
    exact (askB_yes h).2.1
  · simp
theorem accList_map (n n' : Nat) (d p : Nat → Int) (rate : Int) : ((accList n n' d p rate).map (Value.int .i64)).length = (accList n n' d p rate).length := by simp

set_option maxHeartbeats 1600000 in
theorem sAsk (w : World) (A A' : Option Addr) (n n' c c' : Nat) (d p : Nat → Int) (rate : Int) (hd : RdI w w.heap.size A n d) (hpd : RdI w w.heap.size A' n' p) :
    Calls Try.prog 61 #[.slice A n c, .slice A' n' c', .int .i64 rate] w fun e w' => e = .returned (.bool (askB n n' d p rate)) ∧ w = w' := by
  have hn := hd.1
  have hn' := hpd.1
  cases t1 : ((n : Int) != n')
  · cases t2 : decide ((300 : Int) < n)
    · cases t5 : inB rate 0 500
      · have hask : askB n n' d p rate = false := by simp [askB, t5]
        rw [hask]
        clear hask
        go_enter Try.func61, Try.ntmps61
        go_wp2_with fail
        refine (l01In_any _ _ _ _).mono ?_
        rintro e w' ⟨rfl, rfl⟩
        go_wp2_with fail
        go_ret
        exact ⟨rfl, rfl⟩
      · have hnn0 : n = n' := by simp at t1; omega
        subst hnn0
        obtain ⟨R, hR⟩ : ∃ R, R = askB n n d p rate := ⟨_, rfl⟩
        rw [← hR]
        have HR := Lib.hid hR.symm
        clear hR
        have h300 : n ≤ 300 := by simp at t2; omega
        go_enter Try.func61, Try.ntmps61
        go_wp2_with fail
        refine (l01In_any _ _ _ _).mono ?_
        rintro e w' ⟨rfl, rfl⟩
        go_wp2_with fail
        go_loop [7] (fun i => ∃ k : Nat, k ≤ n ∧ i = .int .i64 k ∧ Hid (∀ j, j < k → inB (d j) 0 10000000 = true ∧ inB (p j) 0 10000000 = true)) (fun i => n - (intOf i).toNat)
        case atStart => exact ⟨0, Nat.zero_le _, rfl, Lib.hid (fun j hj => absurd hj (Nat.not_lt_zero _))⟩
        case round =>
          obtain ⟨k, hk, rfl, HK⟩ := hrel
          by_cases hlt : k < n
          · obtain ⟨bd, offd, rfl, hbd, hcd⟩ := hd.2 k hlt
            obtain ⟨bp, offp, rfl, hbp, hcp⟩ := hpd.2 k hlt
            cases ta : inB (d k) 0 10000000
            · go_wp2_with fail
              refine (l01In_any _ _ _ _).mono ?_
              rintro e w' ⟨rfl, rfl⟩
              simp only [ta]
              go_wp2_with fail
              have hR : R = false := by rw [← HR.out]; simp [askB, allIn_no hlt ta]
              subst hR
              go_ret
              exact ⟨rfl, rfl⟩
            · cases tb : inB (p k) 0 10000000
              · go_wp2_with fail
                refine (l01In_any _ _ _ _).mono ?_
                rintro e w' ⟨rfl, rfl⟩
                simp only [ta]
                go_wp2_with fail
                refine (l01In_any _ _ _ _).mono ?_
                rintro e w' ⟨rfl, rfl⟩
                simp only [tb]
                go_wp2_with fail
                have hR : R = false := by rw [← HR.out]; simp [askB, allIn_no hlt tb]
                subst hR
                go_ret
                exact ⟨rfl, rfl⟩
              · have HN := Lib.hid (show ∀ j, j < k + 1 → inB (d j) 0 10000000 = true ∧ inB (p j) 0 10000000 = true from fun j hj => if e : j = k then e ▸ ⟨ta, tb⟩ else HK.out j (by omega))
                go_wp2_with fail
                refine (l01In_any _ _ _ _).mono ?_
                rintro e w' ⟨rfl, rfl⟩
                simp only [ta]
                go_wp2_with fail
                refine (l01In_any _ _ _ _).mono ?_
                rintro e w' ⟨rfl, rfl⟩
                simp only [tb]
                go_wp2_with fail
                go_round
                case rel => exact ⟨k + 1, by omega, by go_num, HN⟩
                case measure => simp [intOf]; omega
          · obtain rfl : k = n := by omega
            have hR : R = true := by
              rw [← HR.out]
              have h1 := allIn_mk (z := d) (lo := 0) (hi := 10000000) (n := k) fun i hi => (HK.out i hi).1
              have h2 := allIn_mk (z := p) (lo := 0) (hi := 10000000) (n := k) fun i hi => (HK.out i hi).2
              simp [askB, h1, h2, t5, h300]
            subst hR
            go_wp2_with fail
            go_ret
            exact ⟨rfl, rfl⟩
    · have hask := (ask_no2 t2 : askB n n' d p rate = false)
      rw [hask]
      clear hask
      go_enter Try.func61, Try.ntmps61
      go_wp2_with fail
      go_ret
      exact ⟨rfl, rfl⟩
  · have hask := (ask_no1 t1 : askB n n' d p rate = false)
    rw [hask]
    clear hask
    go_enter Try.func61, Try.ntmps61
    go_wp2_with fail
    go_ret
    exact ⟨rfl, rfl⟩

set_option maxHeartbeats 3200000 in
theorem sRun (w : World) (A A' : Option Addr) (n c c' : Nat) (d p : Nat → Int) (rate : Int) (hd : RdI w w.heap.size A n d) (hpd : RdI w w.heap.size A' n p) (hask : askB n n d p rate = true) :
    Calls Try.prog 62 #[.slice A n c, .slice A' n c', .int .i64 rate] w fun e w' => ∃ v : Value, e = .returned (.tuple #[v, .int .i64 (accAt rate d p n).2]) ∧ w'.ownsRow w.heap.size 3 1 v (accOuts rate d p n).length ((accOuts rate d p n).map (Value.int .i64)) ∧ Below w.heap.size w w' := by
  obtain ⟨-, hn3, hdb0, hpb0, hr0, hr1⟩ := askB_yes hask
  have hn := hd.1
  have hdb := Lib.hid hdb0
  have hpb := Lib.hid hpb0
  clear hdb0 hpb0 hask
  obtain ⟨i0, hi, hz0, hz1, hz2⟩ := info_parts int_inf
  go_enter Try.func62, Try.ntmps62
  go_wp2_with fail
  go_loopw [8, 9, 10, 11] (fun v y x i wr => ∃ k : Nat, k ≤ n ∧ i = .int .i64 k ∧ wr.ownsRow w.heap.size 3 1 v k ((accOuts rate d p k).map (Value.int .i64)) ∧ x = .int .i64 (accAt rate d p k).1 ∧ y = .int .i64 (accAt rate d p k).2 ∧ Below w.heap.size w wr) (fun _ _ _ i _ => n - (intOf i).toNat)
  case atStart => exact ⟨0, Nat.zero_le _, rfl, own_empty _ _ _ _ (Nat.le_refl _), rfl, rfl, (Below.refl _ _).alloc (Nat.le_refl _) _⟩
  case round =>
    obtain ⟨k, hk, rfl, hown, rfl, rfl, hbr⟩ := hrel
    have hab := accAt_bd hr0 hr1 hdb.out hpb.out hn3 k hk
    have hcl := capA_le k (by omega)
    obtain ⟨s, hs⟩ : ∃ s, s = accAt rate d p k := ⟨_, rfl⟩
    rw [← hs] at hab ⊢
    have HS := Lib.hid hs
    clear hs
    obtain ⟨b, t⟩ := s
    dsimp only at hab ⊢
    obtain ⟨ha1, ha2, ha3, ha4⟩ := hab
    have hl1 : b ≤ 60000000000000 := by omega
    clear ha1 hcl
    by_cases hlt : k < n
    · obtain ⟨bd, offd, rfl, hbd, hcd⟩ := hd.2 k hlt
      obtain ⟨bp, offp, rfl, hbp, hcp⟩ := hpd.2 k (by omega)
      have ccd : wr.cell? ⟨bd, offd + k, none⟩ = some (.int .i64 (d k)) := (hbr.cell (p := ⟨bd, offd + k, none⟩) hbd).trans hcd
      have ccp : wr.cell? ⟨bp, offp + k, none⟩ = some (.int .i64 (p k)) := (hbr.cell (p := ⟨bp, offp + k, none⟩) hbp).trans hcp
      have hlt2 : (k : Int) < n := by omega
      have hdk := hdb.out k hlt
      have hpk := hpb.out k hlt
      obtain ⟨hdk1, hdk2⟩ := hdk
      obtain ⟨hpk1, hpk2⟩ := hpk
      clear hcd hcp
      by_cases hp : 0 < b
      · have hm := mulDiv_le2 hp hl1 hr0 hr1
        obtain ⟨hm1, hm2⟩ := hm
        have hm3 : 0 ≤ b * rate := Int.mul_nonneg (by omega) hr0
        have hm4 : b * rate ≤ 60000000000000 * 500 := Int.mul_le_mul hl1 hr1 hr0 (by omega)
        have hs1 : accAt rate d p (k + 1) = (b + b * rate / 12000 + (d k - p k), t + b * rate / 12000) := by rw [accAt, ← HS.out, accStep]; rw [if_pos hp]
        have HS1 := Lib.hid hs1
        clear hs1
        have hx1 : (accAt rate d p (k + 1)).1 = b + b * rate / 12000 + (d k - p k) := by rw [HS1.out]
        have HX1 := Lib.hid hx1
        clear hx1
        go_wp2_with fail
        go_quiet (fail)
        go_wp2_with (at_builtin; refine wpList_append_own_at _ rfl _ _ 36 rfl w.heap.size 3 i0 (.int .i64 0) 1 8 Try.underlying36 hi hz0 hz1 hz2 rfl (by decide) _ _ _ rfl (hown.alloc _) ⟨wr.heap.size, 0, none⟩ 1 1 [.int .i64 (b + b * rate / 12000 + d k - p k)] rfl rfl ?c1p ?c2p ?c3p ?c4p ?c5p ?_)
        try (case c1p => (first | (exact elemD _ _ _ _) | (intro j u hj; match j, hj with | 0, hj => simp at hj; subst hj; (first | (simp [Addr.add]; done) | (simp [Addr.add, go_sem]; done))) | (simp [go_sem, Addr.add]; done)))
        case c2p => (first | rfl | (intro u hu; simp at hu; subst hu; rfl))
        case c3p => unfold maxLen; omega
        case c4p => omega
        case c5p => have := hbr.size; simp; omega
        intro v' w3 hown3 hg3 _ hat
        go_wp2
        go_roundw
        case rel =>
          refine ⟨k + 1, by omega, by go_num, ?_, by rw [HX1.out]; congr 1; omega, by rw [HS1.out], ((below_drewN hbr _).alloc hbr.size _).grown hg3 (by simp; have := hbr.size; omega) (fun q hq => (hown.lt q hq).1)⟩
          rw [accOuts_succ, List.map_append, HX1.out]
          have e9 : b + b * rate / 12000 + d k - p k = b + b * rate / 12000 + (d k - p k) := by omega
          rw [e9] at hown3
          exact hown3
        case measure => simp [intOf]; omega
      · have hs1 : accAt rate d p (k + 1) = (b + (d k - p k), t) := by rw [accAt, ← HS.out, accStep]; rw [if_neg hp]
        have HS1 := Lib.hid hs1
        clear hs1
        have hx1 : (accAt rate d p (k + 1)).1 = b + (d k - p k) := by rw [HS1.out]
        have HX1 := Lib.hid hx1
        clear hx1
        go_wp2_with fail
        go_quiet (fail)
        go_wp2_with (at_builtin; refine wpList_append_own_at _ rfl _ _ 36 rfl w.heap.size 3 i0 (.int .i64 0) 1 8 Try.underlying36 hi hz0 hz1 hz2 rfl (by decide) _ _ _ rfl (hown.alloc _) ⟨wr.heap.size, 0, none⟩ 1 1 [.int .i64 (b + d k - p k)] rfl rfl ?c1n ?c2n ?c3n ?c4n ?c5n ?_)
        try (case c1n => (first | (exact elemD _ _ _ _) | (intro j u hj; match j, hj with | 0, hj => simp at hj; subst hj; (first | (simp [Addr.add]; done) | (simp [Addr.add, go_sem]; done))) | (simp [go_sem, Addr.add]; done)))
        case c2n => (first | rfl | (intro u hu; simp at hu; subst hu; rfl))
        case c3n => unfold maxLen; omega
        case c4n => omega
        case c5n => have := hbr.size; simp; omega
        intro v' w3 hown3 hg3 _ hat
        go_wp2
        go_roundw
        case rel =>
          refine ⟨k + 1, by omega, by go_num, ?_, by rw [HX1.out]; congr 1; omega, by rw [HS1.out], ((below_drewN hbr _).alloc hbr.size _).grown hg3 (by simp; have := hbr.size; omega) (fun q hq => (hown.lt q hq).1)⟩
          rw [accOuts_succ, List.map_append, HX1.out]
          have e9 : b + d k - p k = b + (d k - p k) := by omega
          rw [e9] at hown3
          exact hown3
        case measure => simp [intOf]; omega
    · obtain rfl : k = n := by omega
      go_wp2_with fail
      go_ret2
      refine ⟨_, ?_, by rw [accOuts_len]; exact hown, hbr⟩
      rw [← HS.out]
      try rfl

set_option maxHeartbeats 800000 in
theorem iRun (w : World) (A A' : Option Addr) (n n' c c' : Nat) (d p : Nat → Int) (rate : Int) (hd : RdI w w.heap.size A n d) (hpd : RdI w w.heap.size A' n' p) :
    Calls Try.prog 33 #[.slice A n c, .slice A' n' c', .int .i64 rate] w fun e w' => ∃ (B : Option Addr) (cc : Nat), e = .returned (.slice B (accList n n' d p rate).length cc) ∧ w'.ownsRow w.heap.size 3 1 (.slice B (accList n n' d p rate).length cc) (accList n n' d p rate).length ((accList n n' d p rate).map (Value.int .i64)) ∧ Below w.heap.size w w' := by
  go_enter Try.func33, Try.ntmps33
  go_wp2_with fail
  refine (iAccount w A A' n n' c c' d p rate hd hpd).mono ?_
  rintro e w1 ⟨v, rfl, hown, hb1⟩
  obtain ⟨B, cc, rfl⟩ := own_slice hown
  go_wp2_with fail
  go_ret
  exact ⟨B, cc, rfl, hown, hb1⟩

set_option maxHeartbeats 800000 in
theorem iInterest (w : World) (A A' : Option Addr) (n n' c c' : Nat) (d p : Nat → Int) (rate : Int) (hd : RdI w w.heap.size A n d) (hpd : RdI w w.heap.size A' n' p) :
    Calls Try.prog 34 #[.slice A n c, .slice A' n' c', .int .i64 rate] w fun e w' => e = .returned (.int .i64 (accSum n n' d p rate)) ∧ Below w.heap.size w w' := by
  go_enter Try.func34, Try.ntmps34
  go_wp2_with fail
  refine (iAccount w A A' n n' c c' d p rate hd hpd).mono ?_
  rintro e w1 ⟨v, rfl, hown, hb1⟩
  obtain ⟨B, cc, rfl⟩ := own_slice hown
  go_wp2_with fail
  go_ret
  exact ⟨rfl, hb1⟩

set_option maxHeartbeats 800000 in
theorem sRunAccount (w : World) (A A' : Option Addr) (n n' c c' : Nat) (d p : Nat → Int) (rate : Int) (hd : RdI w w.heap.size A n d) (hpd : RdI w w.heap.size A' n' p) :
    Calls Try.prog 40 #[.slice A n c, .slice A' n' c', .int .i64 rate] w fun e w' => ∃ (B : Option Addr) (cc : Nat), e = .returned (.slice B (accList n n' d p rate).length cc) ∧ w'.ownsRow w.heap.size 3 1 (.slice B (accList n n' d p rate).length cc) (accList n n' d p rate).length ((accList n n' d p rate).map (Value.int .i64)) ∧ Below w.heap.size w w' := by
  cases hask : askB n n' d p rate
  · rw [show accList n n' d p rate = [] by rw [accList, hask]; rfl]
    go_enter Try.func40, Try.ntmps40
    go_wp2_with fail
    refine (sAsk w A A' n n' c c' d p rate hd hpd).mono ?_
    rintro e w' ⟨rfl, rfl⟩
    simp only [hask]
    go_wp2_with fail
    go_ret
    exact ⟨_, _, rfl, own_empty _ _ _ _ (Nat.le_refl _), (Below.refl _ _).alloc (Nat.le_refl _) _⟩
  · have hnn := (askB_yes hask).1
    subst hnn
    rw [show accList n n d p rate = accOuts rate d p n by rw [accList, hask]; rfl]
    go_enter Try.func40, Try.ntmps40
    go_wp2_with fail
    refine (sAsk w A A' n n c c' d p rate hd hpd).mono ?_
    rintro e w' ⟨rfl, rfl⟩
    simp only [hask]
    go_wp2_with fail
    refine (sRun w A A' n c c' d p rate hd hpd hask).mono ?_
    rintro e w1 ⟨v, rfl, hown, hb1⟩
    obtain ⟨B, cc, rfl⟩ := own_slice hown
    go_wp2_with fail
    go_ret
    exact ⟨B, cc, rfl, hown, hb1⟩

set_option maxHeartbeats 800000 in
theorem sInterest (w : World) (A A' : Option Addr) (n n' c c' : Nat) (d p : Nat → Int) (rate : Int) (hd : RdI w w.heap.size A n d) (hpd : RdI w w.heap.size A' n' p) :
    Calls Try.prog 36 #[.slice A n c, .slice A' n' c', .int .i64 rate] w fun e w' => e = .returned (.int .i64 (accSum n n' d p rate)) ∧ Below w.heap.size w w' := by
  cases hask : askB n n' d p rate
  · rw [show accSum n n' d p rate = 0 by rw [accSum, hask]; rfl]
    go_enter Try.func36, Try.ntmps36
    go_wp2_with fail
    refine (sAsk w A A' n n' c c' d p rate hd hpd).mono ?_
    rintro e w' ⟨rfl, rfl⟩
    simp only [hask]
    go_wp2_with fail
    go_ret
    exact ⟨rfl, Below.refl _ _⟩
  · have hnn := (askB_yes hask).1
    subst hnn
    rw [show accSum n n d p rate = (accAt rate d p n).2 by rw [accSum, hask]; rfl]
    go_enter Try.func36, Try.ntmps36
    go_wp2_with fail
    refine (sAsk w A A' n n c c' d p rate hd hpd).mono ?_
    rintro e w' ⟨rfl, rfl⟩
    simp only [hask]
    go_wp2_with fail
    refine (sRun w A A' n c c' d p rate hd hpd hask).mono ?_
    rintro e w1 ⟨v, rfl, hown, hb1⟩
    obtain ⟨B, cc, rfl⟩ := own_slice hown
    go_wp2_with fail
    go_ret
    exact ⟨rfl, hb1⟩

set_option maxHeartbeats 800000 in
theorem gtr0 (x : Int) (w : World) : Calls Try.prog 60 #[.int .i64 x] w fun e w' => e = .returned (.bool (decide (0 < x))) ∧ w = w' := by
  go_enter Try.func60, Try.ntmps60
  by_cases h : 0 < x
  · rw [show decide (0 < x) = true from decide_eq_true h]
    go_wp2_with fail
    go_ret
    exact ⟨rfl, rfl⟩
  · rw [show decide (0 < x) = false from decide_eq_false h]
    go_wp2_with fail
    go_ret
    exact ⟨rfl, rfl⟩

set_option maxHeartbeats 800000 in
theorem idxGtr0 (w : World) (B : Nat) (A : Option Addr) (n c : Nat) (z : Nat → Int) (h : RdI w B A n z) :
    Calls Try.prog 59 #[.slice A n c, .func (.func 60) #[] #[]] w fun e w' => e = .returned (.int .i64 (idxFrom (fun x => decide (0 < x)) z n 0)) ∧ w = w' := by
  have hn := h.1
  obtain ⟨R, hR⟩ : ∃ R, R = idxFrom (fun x => decide (0 < x)) z n 0 := ⟨_, rfl⟩
  rw [← hR]
  have HR := Lib.hid hR.symm
  clear hR
  go_enter Try.func59, Try.ntmps59
  go_wp2_with fail
  go_loop [8] (fun i => ∃ k : Nat, k ≤ n ∧ i = .int .i64 k ∧ Hid (idxFrom (fun x => decide (0 < x)) z (n - k) k = R)) (fun i => n - (intOf i).toNat)
  case atStart => exact ⟨0, Nat.zero_le _, rfl, HR⟩
  case round =>
    obtain ⟨k, hk, rfl, HK⟩ := hrel
    clear HR
    by_cases hlt : k < n
    · obtain ⟨b, off, rfl, hbB, hcell⟩ := h.2 k hlt
      go_wp2_with fail
      refine (gtr0 _ _).mono ?_
      rintro e w' ⟨rfl, rfl⟩
      cases hP : (fun x => decide (0 < x)) (z k)
      · have HN := Lib.hid ((idx_miss (P := (fun x => decide (0 < x))) hlt hP).symm.trans HK.out)
        simp only [hP]
        dsimp only at hP
        go_wp2_with fail
        go_round
        case rel => exact ⟨k + 1, by omega, by go_num, HN⟩
        case measure => simp [intOf]; omega
      · have HN := Lib.hid ((idx_hit (P := (fun x => decide (0 < x))) hlt hP).symm.trans HK.out)
        simp only [hP]
        dsimp only at hP
        go_wp2_with fail
        go_ret
        exact ⟨ret_int HN.out, rfl⟩
    · obtain rfl : k = n := by omega
      have HN := Lib.hid (show (-1 : Int) = R by rw [← HK.out, Nat.sub_self]; rfl)
      go_wp2_with fail
      go_ret
      exact ⟨ret_int HN.out, rfl⟩

set_option maxHeartbeats 800000 in
theorem iFirst (w : World) (A A' : Option Addr) (n n' c c' : Nat) (d p : Nat → Int) (rate : Int) (hd : RdI w w.heap.size A n d) (hpd : RdI w w.heap.size A' n' p) :
    Calls Try.prog 35 #[.slice A n c, .slice A' n' c', .int .i64 rate] w fun e w' => e = .returned (.int .i64 (idxFrom (fun x => decide (0 < x)) (fun i => (accList n n' d p rate).getD i 0) (accList n n' d p rate).length 0)) ∧ Below w.heap.size w w' := by
  have hl := accList_len n n' d p rate
  have hC := (iRun w A A' n n' c c' d p rate hd hpd)
  generalize accList n n' d p rate = ls at hl hC ⊢
  obtain ⟨z, hz⟩ : ∃ z : Nat → Int, z = fun i => ls.getD i 0 := ⟨_, rfl⟩
  rw [← hz]
  go_enter Try.func35, Try.ntmps35
  go_wp2_with fail
  refine hC.mono ?_
  rintro e w1 ⟨B, cc, rfl, hown, hb1⟩
  have hr := RdI.own hown (by omega)
  rw [← hz] at hr
  clear hz
  go_wp2_with fail
  refine (idxGtr0 w1 _ B ls.length cc _ hr).mono ?_
  rintro e w2 ⟨rfl, rfl⟩
  go_wp2_with fail
  go_ret
  exact ⟨rfl, hb1⟩

set_option maxHeartbeats 800000 in
theorem sFirst (w : World) (A A' : Option Addr) (n n' c c' : Nat) (d p : Nat → Int) (rate : Int) (hd : RdI w w.heap.size A n d) (hpd : RdI w w.heap.size A' n' p) :
    Calls Try.prog 39 #[.slice A n c, .slice A' n' c', .int .i64 rate] w fun e w' => e = .returned (.int .i64 (idxFrom (fun x => decide (0 < x)) (fun i => (accList n n' d p rate).getD i 0) (accList n n' d p rate).length 0)) ∧ Below w.heap.size w w' := by
  have hl := accList_len n n' d p rate
  have hC := (sRunAccount w A A' n n' c c' d p rate hd hpd)
  generalize accList n n' d p rate = ls at hl hC ⊢
  obtain ⟨z, hz⟩ : ∃ z : Nat → Int, z = fun i => ls.getD i 0 := ⟨_, rfl⟩
  rw [← hz]
  obtain ⟨R, hR⟩ : ∃ R, R = idxFrom (fun x => decide (0 < x)) z ls.length 0 := ⟨_, rfl⟩
  rw [← hR]
  have HR := Lib.hid hR.symm
  clear hR
  go_enter Try.func39, Try.ntmps39
  go_wp2_with fail
  refine hC.mono ?_
  rintro e w1 ⟨B, cc, rfl, hown, hb1⟩
  have h := RdI.own hown (by omega)
  rw [← hz] at h
  clear hz
  clear hown
  obtain ⟨m, hm⟩ : ∃ m, m = ls.length := ⟨_, rfl⟩
  rw [← hm] at hl h HR ⊢
  clear hm
  go_wp2_with fail
  go_loop [8] (fun i => ∃ k : Nat, k ≤ m ∧ i = .int .i64 k ∧ Hid (idxFrom (fun x => decide (0 < x)) z (m - k) k = R)) (fun i => m - (intOf i).toNat)
  case atStart => exact ⟨0, Nat.zero_le _, rfl, HR⟩
  case round =>
    obtain ⟨k, hk, rfl, HK⟩ := hrel
    clear HR
    by_cases hlt : k < m
    · obtain ⟨b, off, rfl, hbB, hcell⟩ := h.2 k hlt
      by_cases hp : 0 < z k
      · have HN := Lib.hid ((idx_hit (P := (fun x => decide (0 < x))) hlt (by simp [hp])).symm.trans HK.out)
        go_wp2_with fail
        go_ret
        exact ⟨ret_int HN.out, hb1⟩
      · have HN := Lib.hid ((idx_miss (P := (fun x => decide (0 < x))) hlt (by simp [hp])).symm.trans HK.out)
        go_wp2_with fail
        go_round
        case rel => exact ⟨k + 1, by omega, by go_num, HN⟩
        case measure => simp [intOf]; omega
    · obtain rfl : k = m := by omega
      have HN := Lib.hid (show (-1 : Int) = R by rw [← HK.out, Nat.sub_self]; rfl)
      go_wp2_with fail
      go_ret
      exact ⟨ret_int HN.out, hb1⟩
end Go.Proofs.Ytjiinkbjmamdmaa
