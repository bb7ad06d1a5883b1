/- Service is counted month by month. No conditions. -/
import Derived.Test.YtmbmpogdakoloaaDrawSp
import Derived.Test.YtmbmpogdakoloaaServ
import Derived.Test.YtmbmpogdakoloaaPct
namespace Go.Proofs.Ytmbmpogdakoloaa
open Go.RowKit

theorem Bys.more {w : World} {B B' n : Nat} {A : Option Addr} (h : Bys w B A n) (hB : B ≤ B') : Bys w B' A n :=
  ⟨h.1, fun k hk => by
    obtain ⟨b, off, z, e, hb, hc⟩ := h.2 k hk
    exact ⟨b, off, z, e, by omega, hc⟩⟩
def pcOne (L : Nat → Sp) (m : Int) (i : Nat) : Int := if spHit L m i = true then (L i).p else 0
/-- What the spells j .. j + f - 1 give in month m. -/
def pcTail (L : Nat → Sp) (m : Int) : Nat → Nat → Int
  | 0, _ => 0
  | f + 1, j => pcOne L m j + pcTail L m f (j + 1)
theorem pcTail_zero {L : Nat → Sp} {m : Int} : ∀ f j, (∀ i, j ≤ i → i < j + f → spHit L m i = false) → pcTail L m f j = 0
  | 0, _, _ => rfl
  | f + 1, j, h => by
    rw [pcTail, pcOne, if_neg (by rw [h j (Nat.le_refl _) (by omega)]; simp), pcTail_zero f (j + 1) fun i h1 h2 => h i (by omega) (by omega)]
    rfl
theorem spHit_iff {L : Nat → Sp} {m : Int} {i : Nat} : spHit L m i = true ↔ (L i).f ≤ m ∧ m < (L i).t ∧ (L i).v = false := by
  simp [spHit, and_assoc]
theorem sp_after {k : Nat} {L : Nat → Sp} (h : spOk k L = true) : ∀ d j, j + 1 + d < k → (L j).t ≤ (L (j + 1 + d)).f
  | 0, j, hj => by
    have := spOk_at h (j + 1) (by omega)
    have h1 := this.2.2.2.2.2
    simp at h1
    exact h1
  | d + 1, j, hj => by
    have ih := sp_after h d j (by omega)
    have h1 := spOk_at h (j + 1 + d) (by omega)
    have h2 := spOk_at h (j + 1 + (d + 1)) hj
    have h3 := h2.2.2.2.2.2
    rw [show j + 1 + (d + 1) - 1 = j + 1 + d by omega] at h3
    omega
theorem pct_tail {k : Nat} {L : Nat → Sp} (h : spOk k L = true) (m : Int) : ∀ f j, j + f = k → pctFrom L m f j = pcTail L m f j
  | 0, _, _ => rfl
  | f + 1, j, hj => by
    rw [pctFrom, pcTail, pcOne]
    split
    · rename_i hh
      rw [pcTail_zero f (j + 1) fun i h1 h2 => ?_]
      · omega
      · cases hi : spHit L m i with
        | false => rfl
        | true =>
          rw [spHit_iff] at hh hi
          have := sp_after h (i - (j + 1)) j (by omega)
          rw [show j + 1 + (i - (j + 1)) = i by omega] at this
          omega
    · rw [pct_tail h m f (j + 1) (by omega)]
      omega
theorem pcTail_last (L : Nat → Sp) (m : Int) : ∀ f j, pcTail L m (f + 1) j = pcTail L m f j + pcOne L m (j + f)
  | 0, j => by simp [pcTail]
  | f + 1, j => by rw [pcTail, pcTail_last L m f (j + 1), pcTail, show j + 1 + f = j + (f + 1) by omega]; omega
theorem months_step {f t a b : Int} (h : (endB f && endB t) = true) (ha : 0 ≤ a) (hab : a ≤ b) (hb : b < 3600) : monthsL f t a (b + 1) = monthsL f t a b + if f ≤ b ∧ b < t then 1 else 0 := by
  simp only [Bool.and_eq_true, endB, inB_iff] at h
  have e1 : (endB f && (endB t && (endB a && endB (b + 1)))) = true := by simp only [Bool.and_eq_true, endB, inB_iff]; omega
  have e2 : (endB f && (endB t && (endB a && endB b))) = true := by simp only [Bool.and_eq_true, endB, inB_iff]; omega
  rw [monthsL, monthsL, if_pos e1, if_pos e2]
  split <;> omega
theorem months_none {f t a b : Int} (hab : b ≤ a) : monthsL f t a b = 0 := by
  rw [monthsL]
  split <;> omega
theorem months_le {f t a b : Int} (h : (endB f && endB t) = true) : monthsL f t a b ≤ monthsL f t 0 3600 := by
  simp only [Bool.and_eq_true, endB, inB_iff] at h
  have e1 : (endB f && (endB t && (endB 0 && endB 3600))) = true := by simp only [Bool.and_eq_true, endB, inB_iff]; omega
  rw [monthsL, monthsL, if_pos e1]
  split
  · rename_i e2
    simp only [Bool.and_eq_true, endB, inB_iff] at e2
    omega
  · omega
theorem sp_ends {k : Nat} {L : Nat → Sp} (h : spOk k L = true) {i : Nat} (hi : i < k) : (endB (L i).f && endB (L i).t) = true := by
  have := spOk_at h i hi
  simp only [Bool.and_eq_true, endB, inB_iff]
  omega
theorem svOne_step {k : Nat} {L : Nat → Sp} (h : spOk k L = true) {i : Nat} (hi : i < k) {a b : Int} (ha : 0 ≤ a) (hab : a ≤ b) (hb : b < 3600) : svOne (L i) a (b + 1) = svOne (L i) a b + pcOne L b i := by
  rw [svOne, svOne, pcOne]
  cases hv : (L i).v with
  | true => simp [spHit, hv]
  | false =>
    rw [if_neg (by simp), if_neg (by simp), months_step (sp_ends h hi) ha hab hb]
    by_cases hh : (L i).f ≤ b ∧ b < (L i).t
    · rw [if_pos hh, if_pos (spHit_iff.2 ⟨hh.1, hh.2, hv⟩), Int.mul_add, Int.mul_one]
    · rw [if_neg hh, if_neg (fun e => hh ⟨(spHit_iff.1 e).1, (spHit_iff.1 e).2.1⟩), Int.add_zero, Int.add_zero]
theorem svSum_step {k : Nat} {L : Nat → Sp} (h : spOk k L = true) {a b : Int} (ha : 0 ≤ a) (hab : a ≤ b) (hb : b < 3600) : ∀ j, j ≤ k → svSum L a (b + 1) j = svSum L a b j + pcTail L b j 0
  | 0, _ => by simp [svSum, pcTail]
  | j + 1, hj => by
    rw [svSum, svSum, svSum_step h ha hab hb j (by omega), svOne_step h (show j < k by omega) ha hab hb, pcTail_last, Nat.zero_add]
    omega
theorem served_step {k : Nat} {L : Nat → Sp} (h : spOk k L = true) {a b : Int} (ha : 0 ≤ a) (hab : a ≤ b) (hb : b < 3600) : svSum L a (b + 1) k = svSum L a b k + pctL k L b := by
  rw [svSum_step h ha hab hb k (Nat.le_refl _), pctL, if_pos h, pct_tail h b k 0 (by omega)]
theorem svSum_none {L : Nat → Sp} {a b : Int} (hab : b ≤ a) : ∀ j, svSum L a b j = 0
  | 0 => rfl
  | j + 1 => by
    rw [svSum, svSum_none hab j, svOne, months_none hab]
    split <;> simp
theorem svSum_le {k : Nat} {L : Nat → Sp} (h : spOk k L = true) (a b : Int) : ∀ j, j ≤ k → svSum L a b j ≤ svSum L 0 3600 j
  | 0, _ => Int.le_refl _
  | j + 1, hj => by
    have ih := svSum_le h a b j (by omega)
    have hp := spOk_at h j (by omega)
    have h1 : svOne (L j) a b ≤ svOne (L j) 0 3600 := by
      rw [svOne, svOne]
      split
      · omega
      · exact Int.mul_le_mul_of_nonneg_left (months_le (sp_ends h (show j < k by omega))) (by omega)
    rw [svSum, svSum]
    omega

set_option maxHeartbeats 3200000 in
theorem walkServed (A : Option Addr) (n c : Nat) (w : World) (hb : Bys w w.heap.size A n) :
    Calls Try.prog 8 #[.slice A n c] w fun e w' => e = .returned (.bool true) ∧ Below w.heap.size w w' := by
  have hn := hb.1
  by_cases hbig : (1048576 : Int) < n
  · have hd : decide ((1048576 : Int) < n) = true := by simpa using hbig
    go_enter Try.func8, Try.ntmps8
    go_wp2_with fail
    refine (lBig _ _ _ _ (by omega)).mono ?_
    rintro e w' ⟨rfl, rfl⟩
    go_wp2_with fail
    go_ret
    exact ⟨rfl, Below.refl _ _⟩
  · have hbg : decide ((1048576 : Int) < n) = false := by simpa using hbig
    go_enter Try.func8, Try.ntmps8
    go_wp2_with fail
    refine (lBig _ _ _ _ (by omega)).mono ?_
    rintro e w' ⟨rfl, rfl⟩
    go_wp2_with fail
    refine (sDrawSpells _ _ _ _ hb).mono ?_
    rintro e w1 ⟨v, k, xs, a0, rfl, hk6, hl, hch, ha, own, hb1⟩
    have hok := hch.ok (by omega) (by omega)
    have ow := OwSp.list own hl
    obtain ⟨L, hL⟩ : ∃ L : Nat → Sp, L = fun i => xs.getD i Sp.zero := ⟨_, rfl⟩
    rw [← hL] at hok ow
    clear hL hch own hl ha
    obtain ⟨C, cc, rfl⟩ := ow.form
    have rd := RdSp.own ow
    clear ow
    have hs1 := hb1.size
    go_wp2_with fail
    refine (sPlacesAt w1 _ _ _ ((hb.below hb1).more hs1)).mono ?_
    rintro e w2 ⟨g, cap, f, rfl, hg0, hg1, hp, hb2⟩
    obtain ⟨p0, x0a, x0b⟩ := hp 0 (by omega)
    obtain ⟨p1, x1a, x1b⟩ := hp 1 (by omega)
    clear hp
    generalize f 0 = x0 at *
    generalize f 1 = x1 at *
    have y0 := Int.emod_nonneg x0 (show (100 : Int) ≠ 0 by omega)
    have y1 := Int.emod_lt_of_pos x0 (show (0 : Int) < 100 by omega)
    have y2 : x0.tmod 100 = x0 % 100 := Int.tmod_eq_emod_of_nonneg x0a
    have z0 := Int.emod_nonneg x1 (show (150 : Int) ≠ 0 by omega)
    have z1 := Int.emod_lt_of_pos x1 (show (0 : Int) < 150 by omega)
    have z2 : x1.tmod 150 = x1 % 150 := Int.tmod_eq_emod_of_nonneg x1a
    obtain ⟨a, ha⟩ : ∃ a, a = x0 % 100 := ⟨_, rfl⟩
    obtain ⟨b, hbq⟩ : ∃ b, b = x1 % 150 := ⟨_, rfl⟩
    rw [← ha] at y0 y1 y2
    rw [← hbq] at z0 z1 z2
    clear ha hbq
    have hs2 := hb2.size
    have rd2 := (rd.below hb2).more hs2
    have hB2 : Below w.heap.size w w2 := hb1.trans (hb2.mono hs1)
    clear rd hb1 hb2
    have hle := spOk_len2 hok
    go_wp2_with fail
    go_loopw [7, 8] (fun s i wr => ∃ m : Int, a ≤ m ∧ (m ≤ b ∨ m = a) ∧ i = .int .i64 m ∧ s = .int .i64 (svSum L a m k) ∧ Below w2.heap.size w2 wr) (fun _ i _ => (b - intOf i).toNat)
    case atStart => exact ⟨a, Int.le_refl _, .inr rfl, rfl, by rw [svSum_none (Int.le_refl _)], Below.refl _ _⟩
    case round =>
      obtain ⟨m, ham, hmb, rfl, rfl, hbr⟩ := hrel
      have hsr := hbr.size
      have rdr := (rd2.below hbr).more hsr
      by_cases hlt : m < b
      · have hst := served_step hok y0 ham (show m < 3600 by omega)
        have hbd := svSum_bd hok a (m + 1) k (Nat.le_refl _)
        have m1 : IntKind.i64.wrap (svSum L a m k + pctL k L m) = svSum L a m k + pctL k L m := by rw [← hst]; exact IntWalk.i64_in _ ⟨by omega, by omega⟩
        have m2 : IntKind.i64.wrap (m + 1) = m + 1 := IntWalk.i64_in _ ⟨by omega, by omega⟩
        have HT := Lib.hid hst.symm
        clear hst hbd
        go_wp2_with fail
        refine (iPercentAt wr C k cc L m rdr).mono ?_
        rintro e w3 ⟨rfl, hb3⟩
        go_wp2_with fail
        go_roundw
        case rel => exact ⟨m + 1, by omega, by omega, by go_num, by rw [HT.out], hbr.trans (hb3.mono hsr)⟩
        case measure => simp [intOf]; omega
      · have hv : svSum L a b k = svSum L a m k := by
          rcases hmb with h | h
          · rw [show m = b by omega]
          · rw [h, svSum_none (show b ≤ a by omega), svSum_none (Int.le_refl _)]
        have hle2 := svSum_le hok a b k (Nat.le_refl _)
        rw [hv] at hle2
        obtain ⟨S, hS⟩ : ∃ S, S = svSum L a m k := ⟨_, rfl⟩
        rw [← hS] at hv hle2 ⊢
        have CA := fun (u : World) (hu : RdSp u u.heap.size C k L) => iServiceIn u C k cc L a b hu
        have CB := fun (u : World) (hu : RdSp u u.heap.size C k L) => iServiceIn u C k cc L 0 3600 hu
        have CS := fun (u : World) (hu : RdSp u u.heap.size C k L) => iSpellsOk u C k cc L hu
        have e1 : serviceL k L a b = S := by rw [serviceL, if_pos hok, hv]
        have e2 : serviceL k L 0 3600 = svSum L 0 3600 k := by rw [serviceL, if_pos hok]
        simp only [e1] at CA
        simp only [e2] at CB
        simp only [hok] at CS
        generalize svSum L 0 3600 k = S2 at CB hle2
        have hge : S2 ≥ S := hle2
        clear hS hv e1 e2
        go_wp2_with fail
        refine (CA wr rdr).mono ?_
        rintro e w4 ⟨rfl, hb4⟩
        have hs4 := hb4.size
        have rd4 := (rdr.below hb4).more hs4
        go_wp2_with fail
        refine (CS w4 rd4).mono ?_
        rintro e w5 ⟨rfl, hb5⟩
        have hs5 := hb5.size
        have rd5 := (rd4.below hb5).more hs5
        go_wp2_with fail
        refine (CB w5 rd5).mono ?_
        rintro e w6 ⟨rfl, hb6⟩
        go_wp2_with fail
        go_ret
        exact ⟨ret_bool (by simp), ((hB2.trans (hbr.mono (by omega))).trans (hb4.mono (by omega))).trans ((hb5.trans (hb6.mono (by omega))).mono (by omega))⟩
end Go.Proofs.Ytmbmpogdakoloaa
