/- The computed payment settles a balance, and a smaller one does not. No conditions. -/
import Derived.Test.YtjiinkbjmamdmaaAcct2
import Derived.Test.YtjiinkbjmamdmaaPlaces
import Derived.Test.YtjiinkbjmamdmaaSettle
import Derived.Test.YtjiinkbjmamdmaaDue
namespace Go.Proofs.Ytjiinkbjmamdmaa
open Go.RowKit

theorem bs_spec (f : Int → Bool) (hmono : ∀ a b, a ≤ b → f a = true → f b = true) : ∀ (n : Nat) (lo hi : Int), lo ≤ hi → (hi - lo).toNat ≤ n → f hi = true →
    lo ≤ bs f n lo hi ∧ bs f n lo hi ≤ hi ∧ f (bs f n lo hi) = true ∧ ∀ y, lo ≤ y → y < bs f n lo hi → f y = false
  | 0, lo, hi, h, hn, hf => by
    obtain rfl : lo = hi := by omega
    refine ⟨Int.le_refl _, Int.le_refl _, hf, fun y h1 h2 => ?_⟩
    simp only [bs] at h2
    omega
  | n + 1, lo, hi, h, hn, hf => by
    by_cases hl : lo < hi
    · by_cases hm : f ((lo + hi) / 2) = true
      · obtain ⟨i1, i2, i3, i4⟩ := bs_spec f hmono n lo ((lo + hi) / 2) (by omega) (by omega) hm
        simp only [bs]
        rw [if_pos hl, if_pos hm]
        exact ⟨i1, by omega, i3, i4⟩
      · obtain ⟨i1, i2, i3, i4⟩ := bs_spec f hmono n ((lo + hi) / 2 + 1) hi (by omega) (by omega) hf
        simp only [bs]
        rw [if_pos hl, if_neg hm]
        refine ⟨by omega, i2, i3, fun y h1 h2 => ?_⟩
        by_cases hy : (lo + hi) / 2 + 1 ≤ y
        · exact i4 y hy h2
        · cases e : f y with
          | false => rfl
          | true => exact absurd (hmono y _ (by omega) e) hm
    · obtain rfl : lo = hi := by omega
      simp only [bs]
      rw [if_neg hl]
      exact ⟨Int.le_refl _, Int.le_refl _, hf, fun y h1 h2 => by omega⟩
theorem stepB_mono {rate x x' a b : Int} (hr : 0 ≤ rate) (hx : x ≤ x') (h : a ≤ b) : stepB rate x' a ≤ stepB rate x b := by
  simp only [stepB]
  by_cases ha : 0 < a
  · have hm : a * rate ≤ b * rate := Int.mul_le_mul_of_nonneg_right h hr
    have hd := Int.ediv_le_ediv (show (0 : Int) < 12000 by omega) hm
    rw [if_pos ha, if_pos (by omega)]
    omega
  · by_cases hb : 0 < b
    · have : 0 ≤ b * rate := Int.mul_nonneg (by omega) hr
      have := Int.ediv_nonneg this (show (0 : Int) ≤ 12000 by omega)
      rw [if_neg ha, if_pos hb]
      omega
    · rw [if_neg ha, if_neg hb]
      omega
theorem leftB_anti {bal rate x x' : Int} (hr : 0 ≤ rate) (hx : x ≤ x') : ∀ k, leftB bal rate x' k ≤ leftB bal rate x k
  | 0 => Int.le_refl _
  | k + 1 => stepB_mono hr hx (leftB_anti hr hx k)
theorem leftB_zero {bal rate : Int} (hb : 1 ≤ bal) (hr : 0 ≤ rate) : ∀ k, 1 ≤ leftB bal rate 0 k
  | 0 => hb
  | k + 1 => by
    have ih := leftB_zero hb hr k
    simp only [leftB, stepB]
    have : 0 ≤ leftB bal rate 0 k * rate := Int.mul_nonneg (by omega) hr
    have := Int.ediv_nonneg this (show (0 : Int) ≤ 12000 by omega)
    rw [if_pos (by omega)]
    omega
theorem leftB_top {bal rate : Int} (hb : 1 ≤ bal) (hr : 0 ≤ rate) (hr' : rate ≤ 500) : ∀ k, leftB bal rate (2 * bal) (k + 1) ≤ 0
  | 0 => by
    show stepB rate (2 * bal) bal ≤ 0
    unfold stepB
    have := mulDiv_le (b := bal) (c := bal) (r := rate) (by omega) (Int.le_refl _) hr hr'
    rw [if_pos (by omega)]
    omega
  | k + 1 => by
    have ih := leftB_top hb hr hr' k
    rw [leftB, stepB, if_neg (by omega)]
    omega
theorem settle_law {bal rate : Int} {M : Nat} (h0 : 1 ≤ bal) (h1 : bal ≤ 1000000) (h2 : 0 ≤ rate) (h3 : rate ≤ 500) (h4 : 1 ≤ M) (h5 : M ≤ 120) :
    1 ≤ settleL bal rate M ∧ settleL bal rate M ≤ 2 * bal ∧ leftB bal rate (settleL bal rate M) M ≤ 0 ∧ 1 ≤ leftB bal rate (settleL bal rate M - 1) M := by
  have e : settleL bal rate M = bsr (settlesB bal rate M) 0 (2 * bal) := by
    rw [settleL_in ⟨by omega, by omega, by omega⟩]
    rfl
  have hm : ∀ a b, a ≤ b → settlesB bal rate M a = true → settlesB bal rate M b = true := fun a b hab ha => by
    simp only [settlesB, decide_eq_true_eq] at ha ⊢
    have := leftB_anti (bal := bal) h2 hab M
    omega
  obtain ⟨m, rfl⟩ : ∃ m, M = m + 1 := ⟨M - 1, by omega⟩
  have ht : settlesB bal rate (m + 1) (2 * bal) = true := by
    simp only [settlesB, decide_eq_true_eq]
    exact leftB_top h0 h2 h3 m
  obtain ⟨i1, i2, i3, i4⟩ := bs_spec _ hm (2 * bal - 0).toNat 0 (2 * bal) (by omega) (Nat.le_refl _) ht
  change 0 ≤ bsr _ 0 (2 * bal) at i1
  change bsr _ 0 (2 * bal) ≤ 2 * bal at i2
  change settlesB _ _ _ (bsr _ 0 (2 * bal)) = true at i3
  change ∀ y, 0 ≤ y → y < bsr _ 0 (2 * bal) → _ at i4
  rw [← e] at i1 i2 i3 i4
  have hz := leftB_zero h0 h2 (m + 1)
  have h1x : 1 ≤ settleL bal rate ((m + 1 : Nat) : Int) := by
    by_cases hx : settleL bal rate ((m + 1 : Nat) : Int) = 0
    · rw [hx] at i3
      simp only [settlesB, decide_eq_true_eq] at i3
      omega
    · omega
  have hlast := i4 (settleL bal rate ((m + 1 : Nat) : Int) - 1) (by omega) (by omega)
  simp only [settlesB, decide_eq_true_eq] at i3
  simp only [settlesB, decide_eq_false_iff_not] at hlast
  exact ⟨h1x, i2, i3, by omega⟩
def duesF (bal : Int) (i : Nat) : Int := if i = 0 then bal else 0
def paidsF (y : Int) (i : Nat) : Int := if i = 0 then 0 else y
theorem acc_left (bal rate y : Int) : ∀ k, (accAt rate (duesF bal) (paidsF y) (k + 1)).1 = leftB bal rate y k
  | 0 => by simp [accAt, accStep, duesF, paidsF, leftB]
  | k + 1 => by
    have ih := acc_left bal rate y k
    rw [accAt, accStep, leftB, stepB, ← ih]
    by_cases hb : 0 < (accAt rate (duesF bal) (paidsF y) (k + 1)).1
    · rw [if_pos hb, if_pos hb]
      simp only [duesF, paidsF]
      rw [if_neg (by omega), if_neg (by omega)]
      omega
    · rw [if_neg hb, if_neg hb]
      simp only [duesF, paidsF]
      rw [if_neg (by omega), if_neg (by omega)]
      omega
theorem ask_settle {bal rate y : Int} {M : Nat} (h0 : 0 ≤ bal) (h1 : bal ≤ 1000000) (h2 : 0 ≤ rate) (h3 : rate ≤ 500) (h4 : M ≤ 120) (h5 : 0 ≤ y) (h6 : y ≤ 2000000) :
    askB (M + 1) (M + 1) (duesF bal) (paidsF y) rate = true := by
  have a1 := allIn_mk (z := duesF bal) (lo := 0) (hi := 10000000) (n := M + 1) fun i hi => inB_iff.2 (by simp only [duesF]; split <;> omega)
  have a2 := allIn_mk (z := paidsF y) (lo := 0) (hi := 10000000) (n := M + 1) fun i hi => inB_iff.2 (by simp only [paidsF]; split <;> omega)
  have : M + 1 ≤ 300 := by omega
  simp [askB, a1, a2, inB_t h2 h3]
  omega
theorem made_at {n j : Nat} (h : j < n) : (madeCells #[Value.int .i64 0] n).toList.getD j undef = .int .i64 0 := by
  rw [toList_madeCells_one, List.getD_eq_getElem?_getD, List.getElem?_replicate, if_pos (by omega)]
  rfl
theorem accList_settle {bal rate y : Int} {M : Nat} (h : askB (M + 1) (M + 1) (duesF bal) (paidsF y) rate = true) :
    (accList (M + 1) (M + 1) (duesF bal) (paidsF y) rate).length = M + 1 ∧ (accList (M + 1) (M + 1) (duesF bal) (paidsF y) rate).getD M 0 = leftB bal rate y M := by
  have e : accList (M + 1) (M + 1) (duesF bal) (paidsF y) rate = accOuts rate (duesF bal) (paidsF y) (M + 1) := by rw [accList, h]; rfl
  rw [e, accOuts_len]
  refine ⟨rfl, ?_⟩
  rw [accOuts, List.getD_eq_getElem?_getD, List.getElem?_map, List.getElem?_range (by omega)]
  exact acc_left bal rate y M

set_option maxHeartbeats 1600000 in
theorem walkSettled (A : Option Addr) (n c : Nat) (w : World) (hb : Bys w w.heap.size A n) :
    Calls Try.prog 13 #[.slice A n c] w fun e w' => e = .returned (.bool true) ∧ Below w.heap.size w w' := by
  have hn := hb.1
  by_cases hbig : (1048576 : Int) < n
  · have hd : decide ((1048576 : Int) < n) = true := by simpa using hbig
    go_enter Try.func13, Try.ntmps13
    go_wp2_with fail
    refine (lBig _ _ _ _ (by omega)).mono ?_
    rintro e w' ⟨rfl, rfl⟩
    go_wp2_with fail
    go_ret
    exact ⟨rfl, Below.refl _ _⟩
  · have hbg : decide ((1048576 : Int) < n) = false := by simpa using hbig
    obtain ⟨i0, hi, hz0, hz1, hz2⟩ := info_parts int_inf
    go_enter Try.func13, Try.ntmps13
    go_wp2_with fail
    refine (lBig _ _ _ _ (by omega)).mono ?_
    rintro e w' ⟨rfl, rfl⟩
    go_wp2_with fail
    refine (sPlacesAt _ _ _ _ hb).mono ?_
    rintro e w1 ⟨g, cap, f, rfl, hg0, hg1, hp, hb1⟩
    obtain ⟨p0, p0a, p0b⟩ := hp 0 (by omega)
    obtain ⟨p1, p1a, p1b⟩ := hp 1 (by omega)
    obtain ⟨p2, p2a, p2b⟩ := hp 2 (by omega)
    clear hp
    generalize f 0 = x0 at *
    generalize f 1 = x1 at *
    generalize f 2 = x2 at *
    have hr1 := Int.emod_nonneg x1 (show (120 : Int) ≠ 0 by omega)
    have hr2 := Int.emod_lt_of_pos x1 (show (0 : Int) < 120 by omega)
    have he1 := Int.emod_nonneg x2 (show (60 : Int) ≠ 0 by omega)
    have he2 := Int.emod_lt_of_pos x2 (show (0 : Int) < 60 by omega)
    have hba : 1 ≤ 1 + x0 * 10 ∧ 1 + x0 * 10 ≤ 1000000 := by omega
    obtain ⟨M, hM⟩ : ∃ M : Nat, 1 + x2 % 60 = (M : Int) := ⟨(1 + x2 % 60).toNat, by omega⟩
    have hM1 : 1 ≤ M ∧ M ≤ 60 := by omega
    go_wp2_with fail
    try rw [hM]
    generalize 1 + x0 * 10 = bal at *
    generalize x1 % 120 = rate at *
    clear p0 p1 p2 p0a p0b p1a p1b p2a p2b he1 he2 hM
    obtain ⟨hba0, hba1⟩ := hba
    obtain ⟨hM0, hM2⟩ := hM1
    refine (iSettleBy bal rate M w1).mono ?_
    obtain ⟨l1, l2, l3, l4⟩ := settle_law (bal := bal) (rate := rate) (M := M) hba0 hba1 hr1 (by omega) hM0 (by omega)
    generalize settleL bal rate M = X at *
    rintro e w2 ⟨rfl, hb2⟩
    have hs1 := hb1.size
    have hB2 := hb1.trans (hb2.mono hs1)
    clear hb1 hb2
    go_wp2_with fail
    go_loopw [8] (fun i wr => ∃ q : Nat, q ≤ 2 ∧ i = .int .i64 q ∧ Below w.heap.size w wr) (fun i _ => 2 - (intOf i).toNat)
    case atStart => exact ⟨0, by omega, rfl, hB2⟩
    case round =>
      obtain ⟨q, hq, rfl, hbr⟩ := hrel
      have hsr := hbr.size
      by_cases hq2 : q < 2
      · have hl : ∃ lv : Int, lv = leftB bal rate (X - q) M ∧ (decide (lv ≤ 0) != (q == 0)) = false := by
          refine ⟨_, rfl, ?_⟩
          by_cases h : q = 0
          · subst h
            simp; exact l3
          · obtain rfl : q = 1 := by omega
            simp; omega
        obtain ⟨lv, hlv, hbool⟩ := hl
        have hask := ask_settle (bal := bal) (rate := rate) (y := X - q) (M := M) (by omega) hba1 hr1 (by omega) (by omega) (by omega) (by omega)
        obtain ⟨al1, al2⟩ := accList_settle hask
        have HLV := Lib.hid (al2.trans hlv.symm)
        clear al2 hlv hask
        have hb0 : decide (lv ≤ 0) = (q == 0) := by
          generalize decide (lv ≤ 0) = a at *
          generalize (q == 0) = b at *
          cases a <;> cases b <;> simp_all
        go_wp2_with (refine wpList_make_full _ rfl (.tmp 40) (.tmp 40) 36 rfl w.heap.size 3 i0 (.int .i64 0) 1 Try.underlying36 hi hz0 hz1 .i64 .i64 ((M : Int) + 1) ((M : Int) + 1) (M + 1) rfl rfl (by omega) (by omega) ?c140 ?c240 (by omega) ?_)
        case c140 => rw [hz2]; omega
        case c240 => unfold maxLen; omega
        intro w3 hown3 hg3
        obtain ⟨hrow3, hl3⟩ := row_of_own hown3
        have hb3 := hbr.grown hg3 hsr (by simp)
        have hs3 := hb3.size
        replace hrow3 : w3.rowIs wr.heap.size 3 (M + 1) (fun _ => .int .i64 0) := (show w3.rowIs wr.heap.size 3 (M + 1) (fun j => (madeCells #[Value.int .i64 0] (M + 1)).toList.getD j undef) by simpa using hrow3).congr fun j hj => made_at hj
        have lt3 := hrow3.lt
        clear hg3 hown3 hl3
        go_wp2_with (refine wpList_make_full _ rfl (.tmp 43) (.tmp 43) 36 rfl w.heap.size 3 i0 (.int .i64 0) 1 Try.underlying36 hi hz0 hz1 .i64 .i64 ((M : Int) + 1) ((M : Int) + 1) (M + 1) rfl rfl (by omega) (by omega) ?c143 ?c243 (by omega) ?_)
        case c143 => rw [hz2]; omega
        case c243 => unfold maxLen; omega
        intro w4 hown4 hg4
        obtain ⟨hrow4, hl4⟩ := row_of_own hown4
        have hb4 := hb3.grown hg4 hs3 (by simp)
        have hs4 := hb4.size
        replace hrow4 : w4.rowIs w3.heap.size 3 (M + 1) (fun _ => .int .i64 0) := (show w4.rowIs w3.heap.size 3 (M + 1) (fun j => (madeCells #[Value.int .i64 0] (M + 1)).toList.getD j undef) by simpa using hrow4).congr fun j hj => made_at hj
        have lt4 := hrow4.lt
        replace hrow3 : w4.rowIs wr.heap.size 3 (M + 1) (fun _ => .int .i64 0) := hrow3.of_block (hg4.block _ lt3 (by simp))
        clear hg4 hown4 hl4
        obtain ⟨g1, hg1e⟩ : ∃ g1, g1 = wr.heap.size := ⟨_, rfl⟩
        obtain ⟨g2, hg2e⟩ : ∃ g2, g2 = w3.heap.size := ⟨_, rfl⟩
        rw [← hg1e] at hrow3 lt3 ⊢
        rw [← hg2e] at hrow4 lt4 ⊢
        have hge1 : w.heap.size ≤ g1 := by omega
        have hge2 : w.heap.size ≤ g2 := by omega
        have hne : ¬ g1 = g2 := by omega
        have lt3b : g1 < w4.heap.size := hrow3.lt
        clear hg1e hg2e hb3 lt3
        have k0 := hrow3.cell (i := 0) (by omega)
        have k1 := hrow3.frozen 0
        go_wp2_with fail
        go_loopw [11] (fun i wr => ∃ j : Nat, 1 ≤ j ∧ j ≤ M + 1 ∧ i = .int .i64 j ∧ wr.rowIs g1 3 (M + 1) (fun i => .int .i64 (duesF bal i)) ∧ wr.rowIs g2 3 (M + 1) (fun i => .int .i64 (if i < j then paidsF (X - q) i else 0)) ∧ Below w.heap.size w wr) (fun i _ => M + 1 - (intOf i).toNat)
        case atStart =>
          refine ⟨1, by omega, by omega, rfl, ?_, ?_, hb4.setCell hge1 _⟩
          · refine (hrow3.set 0 _).congr fun j hj => ?_
            by_cases e : j = 0
            · subst e; simp [duesF]
            · simp [e, duesF]
          · refine (hrow4.setOther (fun e => hne e.symm) _).congr fun j hj => ?_
            by_cases e : j < 1
            · rw [if_pos e]; simp [paidsF, show j = 0 by omega]
            · rw [if_neg e]
        case round =>
          clear k0 k1 hrow3 hrow4
          obtain ⟨j, hj0, hj, rfl, r1, r2, hbj⟩ := hrel
          by_cases hjm : j < M + 1
          · have k2 := r2.cell hjm
            have k3 := r2.frozen j
            have hj1 : (j : Int) ≤ M := by omega
            go_wp2_with fail
            go_roundw
            case rel =>
              refine ⟨j + 1, by omega, by omega, by go_num, r1.setOther hne _, ?_, hbj.setCell hge2 _⟩
              refine (r2.set j _).congr fun i hi => ?_
              by_cases e : i = j
              · subst e; simp [paidsF, show ¬ i = 0 by omega]
              · by_cases e2 : i < j
                · simp [e, e2, show i < j + 1 by omega]
                · simp [e, e2, show ¬ i < j + 1 by omega]
            case measure => simp [intOf]; omega
          · obtain rfl : j = M + 1 := by omega
            have r2b : _ := r2.congr (g := fun i => .int .i64 (paidsF (X - q) i)) fun i hi => by simp [hi]
            have hd := RdI.row r1 r1.lt (by omega)
            have hp := RdI.row r2b r2b.lt (by omega)
            clear r1 r2 r2b
            have hC := sRunAccount _ _ _ (M + 1) (M + 1) (M + 1) (M + 1) _ _ rate hd hp
            rw [al1] at hC
            generalize accList (M + 1) (M + 1) (duesF bal) (paidsF (X - q)) rate = ls at hC HLV al1
            go_wp2_with fail
            refine hC.mono ?_
            rintro e w6 ⟨B, cc, rfl, hown, hb6⟩
            have hs6 := hbj.size
            have hB6 := hbj.trans (hb6.mono hs6)
            have hr := RdI.own hown (by omega)
            obtain ⟨b, off, rfl, -, hc⟩ := hr.2 M (by omega)
            replace hc : w6.cell? ⟨b, off + M, none⟩ = some (.int .i64 (ls.getD M 0)) := hc
            rw [HLV.out] at hc
            clear hC hd hp hown hr
            by_cases h : q = 0
            · subst h
              have hlv0 : lv ≤ 0 := by simpa using hb0
              go_wp2_with fail
              go_roundw
              case rel => exact ⟨1, by omega, rfl, hB6⟩
              case measure => simp [intOf]
            · obtain rfl : q = 1 := by omega
              have hlv0 : 0 < lv := by simp at hb0; omega
              go_wp2_with fail
              go_roundw
              case rel => exact ⟨2, by omega, rfl, hB6⟩
              case measure => simp [intOf]
      · obtain rfl : q = 2 := by omega
        go_wp2_with fail
        refine (iDueFor 100000 95 _).mono ?_
        rw [show dueForL 100000 95 = 9500 from by decide]
        rintro e w' ⟨rfl, rfl⟩
        go_wp2_with fail
        go_ret
        exact ⟨rfl, hbr⟩
end Go.Proofs.Ytjiinkbjmamdmaa
