/- Spells and breaks together fill the time from the first to the last spell. No conditions. -/
import Derived.Test.YtmbmpogdakoloaaDrawSp
namespace Go.Proofs.Ytmbmpogdakoloaa
open Go.RowKit

/-- The months of the first k spells. -/
def spSum (L : Nat → Sp) : Nat → Int
  | 0 => 0
  | k + 1 => spSum L k + (L k).t - (L k).f
def sgSum (M : Nat → Sg) : Nat → Int
  | 0 => 0
  | k + 1 => sgSum M k + (M k).v
theorem sgSum_congr {M N : Nat → Sg} : ∀ {k : Nat}, (∀ i, i < k → M i = N i) → sgSum M k = sgSum N k
  | 0, _ => rfl
  | k + 1, h => by rw [sgSum, sgSum, sgSum_congr (k := k) fun i hi => h i (by omega), h k (by omega)]
def sumV : List Sg → Int
  | [] => 0
  | x :: xs => x.v + sumV xs
theorem sumV_app : ∀ xs ys : List Sg, sumV (xs ++ ys) = sumV xs + sumV ys
  | [], ys => by simp [sumV]
  | x :: xs, ys => by rw [List.cons_append, sumV, sumV, sumV_app xs ys]; omega
theorem sgSum_shift (M : Nat → Sg) : ∀ k, sgSum M (k + 1) = (M 0).v + sgSum (fun i => M (i + 1)) k
  | 0 => by simp [sgSum]
  | k + 1 => by rw [sgSum, sgSum_shift M k, sgSum]; omega
theorem sgSum_list : ∀ xs : List Sg, sgSum (fun i => xs.getD i Sg.zero) xs.length = sumV xs
  | [] => rfl
  | x :: xs => by
    rw [List.length_cons, sgSum_shift, sumV, ← sgSum_list xs]
    rfl
/-- Spells and breaks fill the time. -/
theorem brk_fill {k : Nat} {L : Nat → Sp} (h : spOk k L = true) : ∀ j, j < k → spSum L (j + 1) + sumV (brk L j) = (L j).t - (L 0).f
  | 0, _ => by simp [spSum, brk, sumV]
  | j + 1, hj => by
    have ih := brk_fill h j (by omega)
    have hg := spOk_at h (j + 1) hj
    have hg2 : (L j).t ≤ (L (j + 1)).f := by have := hg.2.2.2.2.2; simp at this; exact this
    rw [spSum, brk, sumV_app, gapL]
    split
    · simp only [sumV]; omega
    · simp only [sumV]; omega
theorem brk_each {k : Nat} {L : Nat → Sp} (h : spOk k L = true) : ∀ j, j < k → ∀ s ∈ brk L j, s.v = s.t - s.f ∧ 0 < s.v ∧ s.v ≤ 3600 ∧ 0 ≤ s.f ∧ s.t ≤ 3600
  | 0, _, s, hs => by simp [brk] at hs
  | j + 1, hj, s, hs => by
    rw [brk] at hs
    rcases List.mem_append.1 hs with hs | hs
    · exact brk_each h j (by omega) s hs
    · have h1 := spOk_at h j (by omega)
      have h2 := spOk_at h (j + 1) hj
      rw [gapL] at hs
      split at hs
      · simp at hs
        subst hs
        dsimp only
        omega
      · simp at hs
theorem breaks_each {k : Nat} {L : Nat → Sp} (h : spOk k L = true) {i : Nat} (hi : i < (breaksL k L).length) : ((breaksL k L).getD i Sg.zero).v = ((breaksL k L).getD i Sg.zero).t - ((breaksL k L).getD i Sg.zero).f ∧ 0 < ((breaksL k L).getD i Sg.zero).v ∧ ((breaksL k L).getD i Sg.zero).v ≤ 3600 ∧ 0 ≤ ((breaksL k L).getD i Sg.zero).f ∧ ((breaksL k L).getD i Sg.zero).t ≤ 3600 := by
  have hm : (breaksL k L).getD i Sg.zero ∈ breaksL k L := by
    rw [List.getD_eq_getElem?_getD, List.getElem?_eq_getElem hi]
    exact List.getElem_mem _
  generalize (breaksL k L).getD i Sg.zero = s at hm
  rw [breaksL, if_pos h] at hm
  cases k with
  | zero => simp [brk] at hm
  | succ k => exact brk_each h k (by omega) s hm
theorem breaks_sum {k : Nat} {L : Nat → Sp} (h : spOk (k + 1) L = true) : spSum L (k + 1) + sgSum (fun i => (breaksL (k + 1) L).getD i Sg.zero) (breaksL (k + 1) L).length = (L k).t - (L 0).f := by
  rw [sgSum_list, breaksL, if_pos h]
  exact brk_fill h k (by omega)
theorem spSum_bd {k : Nat} {L : Nat → Sp} (h : spOk k L = true) : ∀ j : Nat, j ≤ k → 0 ≤ spSum L j ∧ spSum L j ≤ 3600 * (j : Int)
  | 0, _ => by simp [spSum]
  | j + 1, hj => by
    have ih := spSum_bd h j (by omega)
    have h1 := spOk_at h j (by omega)
    rw [spSum]
    omega
theorem sgSum_bd {M : Nat → Sg} {m : Nat} (h : ∀ i, i < m → 0 < (M i).v ∧ (M i).v ≤ 3600) : ∀ j : Nat, j ≤ m → 0 ≤ sgSum M j ∧ sgSum M j ≤ 3600 * (j : Int)
  | 0, _ => by simp [sgSum]
  | j + 1, hj => by
    have ih := sgSum_bd h j (by omega)
    have h1 := h j (by omega)
    rw [sgSum]
    omega

set_option maxHeartbeats 3200000 in
theorem walkBreaks (A : Option Addr) (n c : Nat) (w : World) (hb : Bys w w.heap.size A n) :
    Calls Try.prog 3 #[.slice A n c] w fun e w' => e = .returned (.bool true) ∧ Below w.heap.size w w' := by
  have hn := hb.1
  by_cases hbig : (1048576 : Int) < n
  · have hd : decide ((1048576 : Int) < n) = true := by simpa using hbig
    go_enter Try.func3, Try.ntmps3
    go_wp2_with fail
    refine (lBig _ _ _ _ (by omega)).mono ?_
    rintro e w' ⟨rfl, rfl⟩
    go_wp2_with fail
    go_ret
    exact ⟨rfl, Below.refl _ _⟩
  · have hbg : decide ((1048576 : Int) < n) = false := by simpa using hbig
    go_enter Try.func3, Try.ntmps3
    go_wp2_with fail
    refine (lBig _ _ _ _ (by omega)).mono ?_
    rintro e w' ⟨rfl, rfl⟩
    go_wp2_with fail
    refine (sDrawSpells _ _ _ _ hb).mono ?_
    rintro e w1 ⟨v, k, xs, a, rfl, hk6, hl, hch, ha, own, hb1⟩
    have hok := hch.ok (by omega) (by omega)
    have ow := OwSp.list own hl
    obtain ⟨L, hL⟩ : ∃ L : Nat → Sp, L = fun i => xs.getD i Sp.zero := ⟨_, rfl⟩
    rw [← hL] at hok ow
    clear hL hch own hl
    obtain ⟨C, cc, rfl⟩ := ow.form
    have rd := RdSp.own ow
    clear ow
    go_wp2_with fail
    refine (iBreaksOf w1 C k cc L rd).mono ?_
    rintro e w2 ⟨u, rfl, ownB, hb2⟩
    have owB := OwSg.list ownB rfl
    obtain ⟨D, cd, rfl⟩ := owB.form
    have rdB := RdSg.own owB
    have hlen := breaks_len k L
    have hbe := fun i hi => breaks_each hok (i := i) hi
    have rd2 := rd.below hb2
    have hB2 : Below w.heap.size w w2 := hb1.trans (hb2.mono hb1.size)
    have hsum : ∀ q, k = q + 1 → spSum L k + sgSum (fun i => (breaksL k L).getD i Sg.zero) (breaksL k L).length = (L q).t - (L 0).f := by intro q hq; subst hq; exact breaks_sum hok
    obtain ⟨m, hm⟩ : ∃ m, m = (breaksL k L).length := ⟨_, rfl⟩
    obtain ⟨M, hM⟩ : ∃ M : Nat → Sg, M = fun i => (breaksL k L).getD i Sg.zero := ⟨_, rfl⟩
    have hbe2 : ∀ i, i < m → (M i).v = (M i).t - (M i).f ∧ 0 < (M i).v ∧ (M i).v ≤ 3600 ∧ 0 ≤ (M i).f ∧ (M i).t ≤ 3600 := by rw [hm, hM]; exact hbe
    have hm0 : k = 0 → m = 0 := by intro h0; rw [hm, breaksL, if_pos hok, h0]; rfl
    rw [← hM, ← hm] at hsum rdB
    rw [← hm] at hlen
    rw [← hm]
    clear hbe hm hM ownB owB rd hb1 hb2
    have hs0 := fun j hj => spSum_bd hok j hj
    have hg0 := fun j hj => sgSum_bd (M := M) (m := m) (fun i hi => ⟨(hbe2 i hi).2.1, (hbe2 i hi).2.2.1⟩) j hj
    have HS := Lib.hid (And.intro hsum (And.intro hbe2 (And.intro hs0 (And.intro hg0 hm0))))
    clear hsum hbe2 hs0 hg0 hm0
    go_wp2_with fail
    go_loopw [5, 6] (fun s i wr => ∃ (j d : Nat), j ≤ k ∧ i = .int .i64 j ∧ s = .int .i64 (spSum L j) ∧ wr = w2.drewN d) (fun _ i _ => k - (intOf i).toNat)
    case atStart => exact ⟨0, 0, Nat.zero_le _, rfl, rfl, rfl⟩
    case round =>
      obtain ⟨j, d, hj, rfl, rfl, rfl⟩ := hrel
      have hbj := HS.out.2.2.1 j hj
      by_cases hlt : j < k
      · have hlt2 : (j : Int) < k := by omega
        obtain ⟨b, off, rfl, hbB, h0, h1, h2, h3⟩ := rd2.2 j hlt
        have hgd := spOk_at hok j hlt
        have m1 : IntKind.i64.wrap (spSum L j + (L j).t) = spSum L j + (L j).t := IntWalk.i64_in _ ⟨by omega, by omega⟩
        have m2 : IntKind.i64.wrap (spSum L j + (L j).t - (L j).f) = spSum L j + (L j).t - (L j).f := IntWalk.i64_in _ ⟨by omega, by omega⟩
        clear h2 h3
        go_wp2_with fail
        go_quiet (fail)
        go_wp2_with fail
        go_roundw
        case rel => exact ⟨j + 1, _, by omega, by go_num, rfl, rfl⟩
        case measure => simp [intOf]; omega
      · obtain rfl : j = k := by omega
        go_wp2_with fail
        go_loopw [5, 7] (fun s i wr => ∃ (q d : Nat), q ≤ m ∧ i = .int .i64 q ∧ s = .int .i64 (spSum L j + sgSum M q) ∧ wr = w2.drewN d) (fun _ i _ => m - (intOf i).toNat)
        case atStart => exact ⟨0, _, Nat.zero_le _, rfl, by simp [sgSum], rfl⟩
        case round =>
          obtain ⟨q, d2, hq, rfl, rfl, rfl⟩ := hrel
          have hgq := HS.out.2.2.2.1 q hq
          by_cases hlt2 : q < m
          · have hlt3 : (q : Int) < m := by omega
            obtain ⟨b, off, rfl, hbB, h0, h1, h2⟩ := rdB.2 q hlt2
            have hbq := HS.out.2.1 q hlt2
            have m1 : IntKind.i64.wrap (spSum L j + sgSum M q + (M q).v) = spSum L j + sgSum M q + (M q).v := IntWalk.i64_in _ ⟨by omega, by omega⟩
            have m2 : IntKind.i64.wrap ((M q).t - (M q).f) = (M q).v := by rw [← hbq.1]; exact IntWalk.i64_in _ ⟨by omega, by omega⟩
            have m3 : ¬ (M q).v ≤ 0 := by omega
            have hst : spSum L j + sgSum M q + (M q).v = spSum L j + sgSum M (q + 1) := by rw [sgSum]; omega
            have HT := Lib.hid hst
            clear hst hbq hgq
            go_wp2_with fail
            go_quiet (fail)
            go_wp2_with fail
            go_roundw
            case rel => exact ⟨q + 1, _, by omega, by go_num, by rw [HT.out], rfl⟩
            case measure => simp [intOf]; omega
          · obtain rfl : q = m := by omega
            cases j with
            | zero =>
              have hx : spSum L 0 + sgSum M q = 0 := by rw [HS.out.2.2.2.2 rfl]; rfl
              rw [hx]
              clear HS hx
              go_wp2_with fail
              go_quiet (fail)
              go_wp2_with fail
              go_ret
              exact ⟨rfl, below_drewN (below_drewN hB2 _) _⟩
            | succ p =>
              have hx := HS.out.1 p rfl
              rw [hx]
              obtain ⟨b, off, rfl, hbB, h0, h1, h2, h3⟩ := rd2.2 p (by omega)
              obtain ⟨b', off', he', -, g0, g1, g2, g3⟩ := rd2.2 0 (by omega)
              obtain ⟨rfl, rfl⟩ : b = b' ∧ off = off' := by injection he' with e; injection e with e1 e2 e3; exact ⟨e1, e2⟩
              clear he' h0 h2 h3 g1 g2 g3
              simp only [Nat.zero_mul, Nat.add_zero] at g0
              have gp := spOk_at hok p (by omega)
              have gz := spOk_at hok 0 (by omega)
              have m2 : IntKind.i64.wrap (p : Int) = p := IntWalk.i64_in _ ⟨by omega, by omega⟩
              have m1 : IntKind.i64.wrap ((p : Int) + 1 - 1) = p := by rw [Int.add_sub_cancel]; exact m2
              have m3 : IntKind.i64.wrap ((L p).t - (L 0).f) = (L p).t - (L 0).f := IntWalk.i64_in _ ⟨by omega, by omega⟩
              have m4 : ¬ (p : Int) + 1 = 0 := by omega
              have m5 : (0 : Int) < (p : Int) + 1 := by omega
              have m6 : (((p : Int) + 1) == 0) = false := by simp; omega
              have m7 : (((p + 1 : Nat) : Int) == 0) = false := by simp; omega
              have m8 : (0 : Int) < ((p + 1 : Nat) : Int) := by omega
              clear HS hx rdB hbj hgq
              go_wp2_with fail
              go_quiet (fail)
              go_wp2_with fail
              go_ret
              exact ⟨rfl, below_drewN (below_drewN hB2 _) _⟩
end Go.Proofs.Ytmbmpogdakoloaa
