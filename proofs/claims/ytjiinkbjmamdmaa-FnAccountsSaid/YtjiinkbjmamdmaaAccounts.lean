/- The last balance is the sum of all dues and all interest minus all payments. No conditions. -/
import Derived.Test.YtjiinkbjmamdmaaAcct2
import Derived.Test.YtjiinkbjmamdmaaLists
namespace Go.Proofs.Ytjiinkbjmamdmaa
open Go.RowKit

def dsum (d p : Nat → Int) : Nat → Int
  | 0 => 0
  | j + 1 => dsum d p j + (d j - p j)
theorem acc_dsum (rate : Int) (d p : Nat → Int) : ∀ k, (accAt rate d p k).1 = (accAt rate d p k).2 + dsum d p k
  | 0 => rfl
  | k + 1 => by
    have := acc_dsum rate d p k
    simp only [accAt, accStep, dsum]
    split
    · dsimp only; omega
    · dsimp only; omega
theorem acc_free (d p : Nat → Int) : ∀ k, (accAt 0 d p k).2 = 0
  | 0 => rfl
  | k + 1 => by
    have := acc_free d p k
    simp only [accAt, accStep]
    split
    · dsimp only; simp [this]
    · dsimp only; omega
theorem dsum_bd {d p : Nat → Int} {k : Nat} (hd : ∀ i, i < k → 0 ≤ d i ∧ d i ≤ 20000) (hp : ∀ i, i < k → 0 ≤ p i ∧ p i ≤ 18000) : ∀ j : Nat, j ≤ k → -18000 * (j : Int) ≤ dsum d p j ∧ dsum d p j ≤ 20000 * (j : Int)
  | 0, _ => by simp [dsum]
  | j + 1, h => by
    have ih := dsum_bd hd hp j (by omega)
    have h1 := hd j (by omega)
    have h2 := hp j (by omega)
    simp only [dsum]
    omega
theorem getD_all {xs : List Int} {P : Int → Prop} (h : ∀ x ∈ xs, P x) {i : Nat} (hi : i < xs.length) : P (xs.getD i 0) := by
  rw [List.getD_eq_getElem?_getD, List.getElem?_eq_getElem hi]
  exact h _ (List.getElem_mem hi)
theorem accOuts_at {rate : Int} {d p : Nat → Int} {k i : Nat} (h : i < k) : (accOuts rate d p k).getD i 0 = (accAt rate d p (i + 1)).1 := by
  rw [accOuts, List.getD_eq_getElem?_getD, List.getElem?_map, List.getElem?_range h]
  rfl
/-- What the law asks of an account, in plain numbers. -/
theorem accounts_law {rate : Int} {d p : Nat → Int} {k : Nat} (hk : k ≤ 13) (hd : ∀ i, i < k → 0 ≤ d i ∧ d i ≤ 20000) (hp : ∀ i, i < k → 0 ≤ p i ∧ p i ≤ 18000) (h0 : 0 ≤ rate) (h1 : rate ≤ 500) :
    askB k k d p rate = true ∧ 0 ≤ (accAt rate d p k).2 ∧ (accAt rate d p k).2 ≤ 39000000000000 ∧ (rate = 0 → (accAt rate d p k).2 = 0) := by
  have a1 := allIn_mk (z := d) (lo := 0) (hi := 10000000) (n := k) fun i hi => inB_iff.2 (by have := hd i hi; omega)
  have a2 := allIn_mk (z := p) (lo := 0) (hi := 10000000) (n := k) fun i hi => inB_iff.2 (by have := hp i hi; omega)
  have h3 : k ≤ 300 := by omega
  have hb := accAt_bd h0 h1 (fun i hi => (by have := hd i hi; omega : 0 ≤ d i ∧ d i ≤ 10000000)) (fun i hi => (by have := hp i hi; omega : 0 ≤ p i ∧ p i ≤ 10000000)) h3 k (Nat.le_refl _)
  refine ⟨by simp [askB, a1, a2, h3, inB_t h0 h1], hb.2.2.1, by omega, fun e => by rw [e]; exact acc_free d p k⟩
theorem idxFrom_top {P : Int → Bool} {z : Nat → Int} (n : Nat) : -1 ≤ idxFrom P z n 0 ∧ idxFrom P z n 0 < n := by
  rcases idxFrom_bd (P := P) (z := z) n 0 with h | h
  · omega
  · omega

set_option maxHeartbeats 1600000 in
theorem walkAccounts (A : Option Addr) (n c : Nat) (w : World) (hb : Bys w w.heap.size A n) :
    Calls Try.prog 9 #[.slice A n c] w fun e w' => e = .returned (.bool true) ∧ Below w.heap.size w w' := by
  have hn := hb.1
  by_cases hbig : (1048576 : Int) < n
  · have hd : decide ((1048576 : Int) < n) = true := by simpa using hbig
    go_enter Try.func9, Try.ntmps9
    go_wp2_with fail
    refine (lBig _ _ _ _ (by omega)).mono ?_
    rintro e w' ⟨rfl, rfl⟩
    go_wp2_with fail
    go_ret
    exact ⟨rfl, Below.refl _ _⟩
  · have hbg : decide ((1048576 : Int) < n) = false := by simpa using hbig
    go_enter Try.func9, Try.ntmps9
    go_wp2_with fail
    refine (lBig _ _ _ _ (by omega)).mono ?_
    rintro e w' ⟨rfl, rfl⟩
    go_wp2_with fail
    refine (sDrawAccount _ _ _ _ hb).mono ?_
    rintro e w1 ⟨u, v, r, k, xs, ys, rfl, hk, hx, hy, hxs, hys, hr0, hr1, hu, hv, hb1⟩
    have hs1 := hb1.size
    obtain ⟨U, uc, rfl⟩ := own_slice hu
    obtain ⟨V, vc, rfl⟩ := own_slice hv
    have hd := RdI.own hu (by omega)
    have hp := RdI.own hv (by omega)
    have hdb : ∀ i, i < k → 0 ≤ xs.getD i 0 ∧ xs.getD i 0 ≤ 20000 := fun i hi => getD_all hxs (by omega)
    have hpb : ∀ i, i < k → 0 ≤ ys.getD i 0 ∧ ys.getD i 0 ≤ 18000 := fun i hi => getD_all hys (by omega)
    obtain ⟨d, hdz⟩ : ∃ d : Nat → Int, d = fun i => xs.getD i 0 := ⟨_, rfl⟩
    obtain ⟨p, hpz⟩ : ∃ p : Nat → Int, p = fun i => ys.getD i 0 := ⟨_, rfl⟩
    rw [← hdz] at hd
    rw [← hpz] at hp
    replace hdb : ∀ i, i < k → 0 ≤ d i ∧ d i ≤ 20000 := hdz ▸ hdb
    replace hpb : ∀ i, i < k → 0 ≤ p i ∧ p i ≤ 18000 := hpz ▸ hpb
    clear hu hv hxs hys hdz hpz hx hy
    obtain ⟨hask, hN0, hN1, hN2⟩ := accounts_law hk hdb hpb hr0 hr1
    have hl : accList k k d p r = accOuts r d p k := by rw [accList, hask]; rfl
    have hsu : accSum k k d p r = (accAt r d p k).2 := by rw [accSum, hask]; rfl
    have C1 := iRun w1 U V k k uc vc d p r hd hp
    rw [hl, accOuts_len] at C1
    have C2 := fun (w : World) hd hp => iInterest w U V k k uc vc d p r hd hp
    rw [hsu] at C2
    have C3 := fun (w : World) hd hp => iFirst w U V k k uc vc d p r hd hp
    rw [hl, accOuts_len] at C3
    have hZ : ∀ i, i < k → (accOuts r d p k).getD i 0 = (accAt r d p (i + 1)).1 := fun i hi => accOuts_at hi
    have hlast := acc_dsum r d p k
    obtain ⟨z, hz⟩ : ∃ z : Nat → Int, z = fun i => (accOuts r d p k).getD i 0 := ⟨_, rfl⟩
    rw [← hz] at C3
    replace hZ : ∀ i, i < k → z i = (accAt r d p (i + 1)).1 := hz ▸ hZ
    have hfb := idxFrom_top (P := (fun x => decide (0 < x))) (z := z) k
    have hff : ∀ i : Nat, i < k → (i : Int) < idxFrom (fun x => decide (0 < x)) z k 0 → ¬ 0 < z i := fun i h1 h2 => by have := idxFrom_before (P := (fun x => decide (0 < x))) (z := z) k 0 i (Nat.zero_le _) (by omega) h2; simpa using this
    generalize idxFrom (fun x => decide (0 < x)) z k 0 = fi at C3 hfb hff
    obtain ⟨N, hN⟩ : ∃ N, N = (accAt r d p k).2 := ⟨_, rfl⟩
    rw [← hN] at hN0 hN1 hN2 C2 hlast
    have hlen := accOuts_len r d p k
    obtain ⟨L, hL⟩ : ∃ L, L = accOuts r d p k := ⟨_, rfl⟩
    rw [← hL] at hz C1 hlen
    have hlst : 0 < k → z (k - 1) = N + dsum d p k := fun h => by rw [hZ _ (by omega), show k - 1 + 1 = k from by omega]; exact hlast
    clear hZ hlast hask hl hsu hN hL
    have hR : r = 0 → N = 0 := hN2
    clear hN2
    have HDB := Lib.hid hdb
    have HPB := Lib.hid hpb
    have HDS := Lib.hid (dsum_bd hdb hpb)
    clear hdb hpb
    have HFF := Lib.hid hff
    have HLST := Lib.hid hlst
    clear hff hlst
    obtain ⟨hf0, hf1⟩ := hfb
    have HZ := Lib.hid hz
    clear hz
    go_wp2_with fail
    refine C1.mono ?_
    rintro e w2 ⟨B, cc, rfl, hown, hb2⟩
    have hs2 := hb2.size
    have hli := RdI.own hown (by omega)
    rw [← HZ.out] at hli
    clear hown
    replace hd := (hd.below hb2).more hs2
    replace hp := (hp.below hb2).more hs2
    have hB2 := hb1.trans (hb2.mono hs1)
    clear C1 hb2
    go_wp2_with fail
    refine (C2 w2 hd hp).mono ?_
    rintro e w3 ⟨rfl, hb3⟩
    have hs3 := hb3.size
    replace hd := (hd.below hb3).more hs3
    replace hp := (hp.below hb3).more hs3
    replace hli := (hli.below hb3).more hs3
    have hB3 := hB2.trans (hb3.mono (by omega))
    clear C2 hb3 hB2
    go_wp2_with fail
    go_loopw [8, 9] (fun s i wr => ∃ j : Nat, j ≤ k ∧ i = .int .i64 j ∧ s = .int .i64 (N + dsum d p j) ∧ Below w3.heap.size w3 wr) (fun _ i _ => k - (intOf i).toNat)
    case atStart => exact ⟨0, Nat.zero_le _, rfl, by simp [dsum], Below.refl _ _⟩
    case round =>
      obtain ⟨j, hj, rfl, rfl, hbr⟩ := hrel
      have hds := HDS.out j hj
      obtain ⟨hds0, hds1⟩ := hds
      by_cases hlt : j < k
      · have hnext : N + dsum d p (j + 1) = N + dsum d p j + d j - p j := by simp only [dsum]; omega
        have HNX := Lib.hid hnext
        clear hnext
        generalize dsum d p j = q at *
        obtain ⟨bd, offd, rfl, hbd, hcd⟩ := (hd.below hbr).2 j hlt
        obtain ⟨bp, offp, rfl, hbp, hcp⟩ := (hp.below hbr).2 j hlt
        have hdj := HDB.out j hlt
        have hpj := HPB.out j hlt
        obtain ⟨hdj0, hdj1⟩ := hdj
        obtain ⟨hpj0, hpj1⟩ := hpj
        have hlt2 : (j : Int) < k := by omega
        go_wp2_with fail
        go_quiet (fail)
        go_wp2_with fail
        go_roundw
        case rel => exact ⟨j + 1, by omega, by go_num, by rw [HNX.out], below_drewN hbr _⟩
        case measure => simp [intOf]; omega
      · obtain rfl : j = k := by omega
        clear hlt
        have hsr := hbr.size
        have hdr := (hd.below hbr).more hsr
        have hpr := (hp.below hbr).more hsr
        have hlr := (hli.below hbr).more hsr
        have hBr := hB3.trans (hbr.mono (by omega))
        obtain ⟨X, hX⟩ : ∃ X, X = N + dsum d p j := ⟨_, rfl⟩
        have hlst := HLST.out
        rw [← hX] at hlst ⊢
        clear HLST
        have HLST := Lib.hid hlst
        clear hlst hd hp hli hX
        go_wp2_with fail
        refine (C3 wr hdr hpr).mono ?_
        rintro e w5 ⟨rfl, hb5⟩
        have hs5 := hb5.size
        have hl5 := (hlr.below hb5).more hs5
        have hB5 := hBr.trans (hb5.mono (by omega))
        go_wp2_with fail
        go_loop [11] (fun i => ∃ q : Nat, q ≤ j ∧ i = .int .i64 q) (fun i => j - (intOf i).toNat)
        case atStart => exact ⟨0, Nat.zero_le _, rfl⟩
        case round =>
          obtain ⟨q, hq, rfl⟩ := hrel
          by_cases hq1 : q < j
          · by_cases hq2 : (q : Int) < fi
            · obtain ⟨b, off, rfl, hbb, hcell⟩ := hl5.2 q hq1
              have hzq := HFF.out q hq1 hq2
              go_wp2_with fail
              go_round
              case rel => exact ⟨q + 1, by omega, by go_num⟩
              case measure => simp [intOf]; omega
            · by_cases hr : r = 0
              · obtain rfl := hR hr
                subst hr
                obtain ⟨m, rfl⟩ : ∃ m, j = m + 1 := ⟨j - 1, by omega⟩
                obtain ⟨b, off, rfl, hbb, hcell⟩ := hl5.2 m (by omega)
                have hzm : z m = X := HLST.out (by omega)
                rw [hzm] at hcell
                go_wp2_with fail
                go_ret
                exact ⟨ret_bool (decide_eq_true (by omega)), hB5⟩
              · have hr2 : 0 < r := by omega
                obtain ⟨m, rfl⟩ : ∃ m, j = m + 1 := ⟨j - 1, by omega⟩
                obtain ⟨b, off, rfl, hbb, hcell⟩ := hl5.2 m (by omega)
                have hzm : z m = X := HLST.out (by omega)
                rw [hzm] at hcell
                go_wp2_with fail
                go_ret
                exact ⟨ret_bool (decide_eq_true (by omega)), hB5⟩
          · by_cases hr : r = 0
            · obtain rfl := hR hr
              subst hr
              by_cases hj0 : j = 0
              · subst hj0
                go_wp2_with fail
                go_ret
                exact ⟨ret_bool (decide_eq_true (by omega)), hB5⟩
              · obtain ⟨m, rfl⟩ : ∃ m, j = m + 1 := ⟨j - 1, by omega⟩
                obtain ⟨b, off, rfl, hbb, hcell⟩ := hl5.2 m (by omega)
                have hzm : z m = X := HLST.out (by omega)
                rw [hzm] at hcell
                go_wp2_with fail
                go_ret
                exact ⟨ret_bool (decide_eq_true (by omega)), hB5⟩
            · have hr2 : 0 < r := by omega
              by_cases hj0 : j = 0
              · subst hj0
                go_wp2_with fail
                go_ret
                exact ⟨ret_bool (decide_eq_true (by omega)), hB5⟩
              · obtain ⟨m, rfl⟩ : ∃ m, j = m + 1 := ⟨j - 1, by omega⟩
                obtain ⟨b, off, rfl, hbb, hcell⟩ := hl5.2 m (by omega)
                have hzm : z m = X := HLST.out (by omega)
                rw [hzm] at hcell
                go_wp2_with fail
                go_ret
                exact ⟨ret_bool (decide_eq_true (by omega)), hB5⟩
end Go.Proofs.Ytjiinkbjmamdmaa
