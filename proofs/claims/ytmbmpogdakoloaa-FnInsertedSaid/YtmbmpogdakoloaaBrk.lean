/- BreaksOf of the program and of the reference. Conditions: the spells can be read. -/
import Derived.Test.YtmbmpogdakoloaaSpOk
import Derived.Test.YtmbmpogdakoloaaSg
import Derived.BigRegion
import Derived.Deep.RegionHeld3
import Derived.Deep.AppendLies
namespace Go.Proofs.Ytmbmpogdakoloaa
open Go.RowKit

theorem cells_new (w : World) (xs : List Value) (t : TypeId) : ∀ j u, xs[j]? = some u → (w.alloc (.cells xs.toArray t)).cell? ((⟨w.heap.size, 0, none⟩ : Addr).add j) = some u := by
  intro j u hj
  have ha : Addr.add ⟨w.heap.size, 0, none⟩ j = ⟨w.heap.size, j, none⟩ := by unfold Addr.add; split <;> simp_all
  rw [ha, (Whole.new w t xs.toArray).cell j, List.getElem?_toArray, hj]
/-- The break between two spells. -/
def gapL (a b : Sp) : List Sg := if a.t < b.f then [⟨a.t, b.f, b.f - a.t⟩] else []
/-- The breaks ahead of spell k. -/
def brk (L : Nat → Sp) : Nat → List Sg
  | 0 => []
  | k + 1 => brk L k ++ gapL (L k) (L (k + 1))
def breaksL (n : Nat) (L : Nat → Sp) : List Sg := if spOk n L = true then brk L (n - 1) else []
theorem brk_len (L : Nat → Sp) : ∀ k, (brk L k).length ≤ k
  | 0 => by simp [brk]
  | k + 1 => by
    have := brk_len L k
    rw [brk, List.length_append]
    have : (gapL (L k) (L (k + 1))).length ≤ 1 := by rw [gapL]; split <;> simp
    omega
theorem breaks_len (n : Nat) (L : Nat → Sp) : (breaksL n L).length ≤ 30 := by
  rw [breaksL]
  split
  · rename_i h
    have := brk_len L (n - 1)
    simp only [spOk, Bool.and_eq_true, decide_eq_true_eq] at h
    omega
  · simp
theorem own_none (v : Value) : v.ownBlock = none ∨ v.ownBlock ≠ none := by cases v.ownBlock <;> simp
theorem own_far {w : World} {base size n b : Nat} {e : TypeId} {v : Value} {xs : List Value} (h : w.ownsRow base e size v n xs) (hb : b < base) : some b ≠ v.ownBlock := fun e => by have := (h.lt b e.symm).1; omega
theorem ownsRow_drew {w : World} {base size n : Nat} {e : TypeId} {v : Value} {xs : List Value} (h : w.ownsRow base e size v n xs) : w.drew.ownsRow base e size v n xs := h
theorem own_sg {w : World} {base : Nat} {v : Value} {xs ys : List Sg} (h : w.ownsRow base 31 3 v xs.length (xs.flatMap Sg.cells)) (e : xs = ys) : w.ownsRow base 31 3 v ys.length (ys.flatMap Sg.cells) := e ▸ h

theorem spOk_len2 {n : Nat} {L : Nat → Sp} (h : spOk n L = true) : n ≤ 30 := by
  simp only [spOk, Bool.and_eq_true, decide_eq_true_eq] at h
  exact h.2
theorem spOk_at {n : Nat} {L : Nat → Sp} (h : spOk n L = true) (i : Nat) (hi : i < n) : 0 ≤ (L i).f ∧ (L i).f < (L i).t ∧ (L i).t ≤ 3600 ∧ 1 ≤ (L i).p ∧ (L i).p ≤ 100 ∧ (i = 0 ∨ (L (i - 1)).t ≤ (L i).f) := by
  simp only [spOk, Bool.and_eq_true] at h
  have h1 := allUp_at h.1 i hi
  simp only [spGood, Bool.and_eq_true, inB_iff, spanB_iff, Bool.or_eq_true, beq_iff_eq, Bool.not_eq_true', decide_eq_false_iff_not] at h1
  omega

set_option maxHeartbeats 3200000 in
theorem iBreaksOf (w : World) (A : Option Addr) (n c : Nat) (L : Nat → Sp) (h : RdSp w w.heap.size A n L) :
    Calls Try.prog 15 #[.slice A n c] w fun e w' => ∃ v : Value, e = .returned v ∧ w'.ownsRow w.heap.size 31 3 v (breaksL n L).length ((breaksL n L).flatMap Sg.cells) ∧ Below w.heap.size w w' := by
  have hn := h.1
  cases hok : spOk n L
  · have hz : breaksL n L = [] := by rw [breaksL, hok]; rfl
    rw [hz]
    go_enter Try.func15, Try.ntmps15
    go_wp2_with fail
    refine (iSpellsOk w A n c L h).mono ?_
    rintro e w1 ⟨rfl, hb1⟩
    rw [hok]
    go_wp2_with fail
    go_ret
    exact ⟨_, rfl, World.ownsRow_nil _ _ _ _, hb1⟩
  · obtain ⟨i0, hi, hz0, hz1, hz2⟩ := info_parts sg_inf
    go_enter Try.func15, Try.ntmps15
    go_wp2_with fail
    refine (iSpellsOk w A n c L h).mono ?_
    rintro e w1 ⟨rfl, hb1⟩
    rw [hok]
    have hs1 := hb1.size
    go_wp2_with fail
    go_loopw [3, 4] (fun v i wr => ∃ k : Nat, (k + 1 ≤ n ∨ k = 0) ∧ i = .int .i64 ((k : Int) + 1) ∧ wr.ownsRow w.heap.size 31 3 v (brk L k).length ((brk L k).flatMap Sg.cells) ∧ Below w.heap.size w wr) (fun _ i _ => n - (intOf i).toNat)
    case atStart => exact ⟨0, .inr rfl, rfl, own_empty _ _ _ _ hs1, hb1.alloc hs1 _⟩
    case round =>
      obtain ⟨k, hk, rfl, hown, hbr⟩ := hrel
      have hs2 := hbr.size
      by_cases hlt : k + 1 < n
      · have hlt2 : (k : Int) + 1 < n := by omega
        obtain ⟨b, off, rfl, hbB, h0, h1, h2, h3⟩ := (h.below hbr).2 k (by omega)
        obtain ⟨b', off', he', -, g0, g1, g2, g3⟩ := (h.below hbr).2 (k + 1) hlt
        obtain ⟨rfl, rfl⟩ : b = b' ∧ off = off' := by injection he' with e; injection e with e1 e2 e3; exact ⟨e1, e2⟩
        clear he' h h0 h2 h3 g1 g2 g3
        have hle := spOk_len2 hok
        have hgd := spOk_at hok k (by omega)
        have hgd2 := spOk_at hok (k + 1) hlt
        have hw2 : IntKind.i64.wrap (k : Int) = k := IntWalk.i64_in _ ⟨by omega, by omega⟩
        have hw1 : IntKind.i64.wrap ((k : Int) + 1 - 1) = k := by rw [Int.add_sub_cancel]; exact hw2
        have hw3 : IntKind.i64.wrap ((L (k + 1)).f - (L k).t) = (L (k + 1)).f - (L k).t := IntWalk.i64_in _ ⟨by omega, by omega⟩
        cases e3 : decide ((L k).t < (L (k + 1)).f)
        · go_wp2_with fail
          go_quiet (fail)
          go_wp2_with fail
          go_roundw
          case rel => exact ⟨k + 1, by omega, by go_num, own_sg hown (by rw [brk, gapL, if_neg (by simpa using e3), List.append_nil]), below_drewN hbr _⟩
          case measure => simp [intOf]; omega
        · have hgx : brk L (k + 1) = brk L k ++ [⟨(L k).t, (L (k + 1)).f, (L (k + 1)).f - (L k).t⟩] := by rw [brk, gapL, if_pos (by simpa using e3)]
          have HG := Lib.hid hgx
          clear hgx
          go_wp2_with fail
          go_quiet (fail)
          have own5 : (wr.drewN nq).ownsRow w.heap.size 31 3 _ (brk L k).length ((brk L k).flatMap Sg.cells) := hown
          have hb5 : Below w.heap.size w (wr.drewN nq) := below_drewN hbr _
          have hs5 : w.heap.size ≤ (wr.drewN nq).heap.size := hbr.size
          generalize wr.drewN nq = w5 at own5 hb5 hs5 ⊢
          clear hown hbr
          go_wp2_with (at_builtin; refine wpList_append_own_at _ rfl _ _ 26 rfl w.heap.size 31 i0 (.agg #[.int .i64 0, .int .i64 0, .int .i64 0]) 3 24 Try.underlying26 hi hz0 hz1 hz2 rfl (by decide) _ _ _ rfl (own5.alloc _) ⟨w5.heap.size, 0, none⟩ 1 1 [.int .i64 (L k).t, .int .i64 (L (k + 1)).f, .int .i64 ((L (k + 1)).f - (L k).t)] rfl rfl (cells_new _ [.int .i64 (L k).t, .int .i64 (L (k + 1)).f, .int .i64 ((L (k + 1)).f - (L k).t)] _) ?c2a ?c3a ?c4a ?c5a ?_)
          case c2a => (first | rfl | (intro u hu; simp at hu; rcases hu with rfl | rfl | rfl <;> rfl))
          case c3a => have := brk_len L k; unfold maxLen; omega
          case c4a => have := brk_len L k; omega
          case c5a => have := hb5.size; simp; omega
          intro v' w6 hown6 hg6 _ hat
          go_wp2
          go_roundw
          case rel =>
            refine ⟨k + 1, by omega, by go_num, ?_, (hb5.alloc hs5 _).grown hg6 (by simp; omega) (fun q hq => (own5.lt q hq).1)⟩
            refine own_sg ?_ HG.out.symm
            rw [List.length_append, List.flatMap_append]
            exact hown6
          case measure => simp [intOf]; omega
      · have hz : breaksL n L = brk L k := by rw [breaksL, if_pos hok, show n - 1 = k by omega]
        have HZ := Lib.hid hz.symm
        clear hz
        go_wp2_with fail
        go_ret
        exact ⟨_, rfl, own_sg hown HZ.out, hbr⟩

set_option maxHeartbeats 3200000 in
theorem sBreaksOf (w : World) (A : Option Addr) (n c : Nat) (L : Nat → Sp) (h : RdSp w w.heap.size A n L) :
    Calls Try.prog 33 #[.slice A n c] w fun e w' => ∃ v : Value, e = .returned v ∧ w'.ownsRow w.heap.size 31 3 v (breaksL n L).length ((breaksL n L).flatMap Sg.cells) ∧ Below w.heap.size w w' := by
  have hn := h.1
  cases hok : spOk n L
  · have hz : breaksL n L = [] := by rw [breaksL, hok]; rfl
    rw [hz]
    obtain ⟨i0, hi, hz0, hz1, hz2⟩ := info_parts sg_inf
    go_enter Try.func33, Try.ntmps33
    go_wp2_with fail
    go_loopw [3, 4] (fun v i wr => i = .int .i64 1 ∧ wr.ownsRow w.heap.size 31 3 v 0 [] ∧ Below w.heap.size w wr) (fun _ i _ => n - (intOf i).toNat)
    case atStart => exact ⟨rfl, own_empty _ _ _ _ (Nat.le_refl _), (Below.refl _ _).alloc (Nat.le_refl _) _⟩
    case round =>
      obtain ⟨rfl, hown, hbr⟩ := hrel
      have hs2 := hbr.size
      by_cases hlt : 1 < n
      · have hlt2 : (1 : Int) < n := by omega
        go_wp2_with fail
        refine (sSpellsOk wr A n c L ((h.below hbr).more hbr.size)).mono ?_
        rintro e w3 ⟨rfl, hb3⟩
        rw [hok]
        go_wp2_with fail
        go_ret
        exact ⟨_, rfl, hown.kept (row := none) (grown_of_below hb3 none) (own_none _), hbr.trans (hb3.mono hs2)⟩
      · have hlt2 : ¬ (1 : Int) < n := by omega
        go_wp2_with fail
        go_ret
        exact ⟨_, rfl, hown, hbr⟩
  · obtain ⟨i0, hi, hz0, hz1, hz2⟩ := info_parts sg_inf
    go_enter Try.func33, Try.ntmps33
    go_wp2_with fail
    go_loopw [3, 4] (fun v i wr => ∃ k : Nat, (k + 1 ≤ n ∨ k = 0) ∧ i = .int .i64 ((k : Int) + 1) ∧ wr.ownsRow w.heap.size 31 3 v (brk L k).length ((brk L k).flatMap Sg.cells) ∧ Below w.heap.size w wr) (fun _ i _ => n - (intOf i).toNat)
    case atStart => exact ⟨0, .inr rfl, rfl, own_empty _ _ _ _ (Nat.le_refl _), (Below.refl _ _).alloc (Nat.le_refl _) _⟩
    case round =>
      obtain ⟨k, hk, rfl, hown, hbr⟩ := hrel
      have hs2 := hbr.size
      by_cases hlt : k + 1 < n
      · have hlt2 : (k : Int) + 1 < n := by omega
        go_wp2_with fail
        refine (sSpellsOk wr A n c L ((h.below hbr).more hbr.size)).mono ?_
        rintro e w3 ⟨rfl, hb3⟩
        rw [hok]
        have hown3 := hown.kept (row := none) (grown_of_below hb3 none) (own_none _)
        have hbr3 := hbr.trans (hb3.mono hs2)
        have hs3 := hbr3.size
        clear hb3 hown hbr hs2
        obtain ⟨b, off, rfl, hbB, h0, h1, h2, h3⟩ := (h.below hbr3).2 k (by omega)
        obtain ⟨b', off', he', -, g0, g1, g2, g3⟩ := (h.below hbr3).2 (k + 1) hlt
        obtain ⟨rfl, rfl⟩ : b = b' ∧ off = off' := by injection he' with e; injection e with e1 e2 e3; exact ⟨e1, e2⟩
        clear he' h h0 h2 h3 g1 g2 g3
        have hle := spOk_len2 hok
        have hgd := spOk_at hok k (by omega)
        have hgd2 := spOk_at hok (k + 1) hlt
        have hw2 : IntKind.i64.wrap (k : Int) = k := IntWalk.i64_in _ ⟨by omega, by omega⟩
        have hw1 : IntKind.i64.wrap ((k : Int) + 1 - 1) = k := by rw [Int.add_sub_cancel]; exact hw2
        have hw3 : IntKind.i64.wrap ((L (k + 1)).f - (L k).t) = (L (k + 1)).f - (L k).t := IntWalk.i64_in _ ⟨by omega, by omega⟩
        cases e3 : decide ((L k).t < (L (k + 1)).f)
        · go_wp2_with fail
          go_quiet (fail)
          go_wp2_with fail
          go_roundw
          case rel => exact ⟨k + 1, by omega, by go_num, own_sg hown3 (by rw [brk, gapL, if_neg (by simpa using e3), List.append_nil]), below_drewN hbr3 _⟩
          case measure => simp [intOf]; omega
        · have hgx : brk L (k + 1) = brk L k ++ [⟨(L k).t, (L (k + 1)).f, (L (k + 1)).f - (L k).t⟩] := by rw [brk, gapL, if_pos (by simpa using e3)]
          have HG := Lib.hid hgx
          clear hgx
          go_wp2_with fail
          go_quiet (fail)
          have own5 : (w3.drewN nq).ownsRow w.heap.size 31 3 _ (brk L k).length ((brk L k).flatMap Sg.cells) := hown3
          have hb5 : Below w.heap.size w (w3.drewN nq) := below_drewN hbr3 _
          have hs5 : w.heap.size ≤ (w3.drewN nq).heap.size := hbr3.size
          have q1 : (w3.drewN nq).cell? ⟨b, off + k * 4 + 1, none⟩ = some (.int .i64 (L k).t) := h1
          have q2 : (w3.drewN nq).cell? ⟨b, off + (k + 1) * 4, none⟩ = some (.int .i64 (L (k + 1)).f) := g0
          generalize w3.drewN nq = w5 at own5 hb5 hs5 q1 q2 ⊢
          clear hown3 hbr3
          go_wp2_with fail
          clear h1 g0 hs3
          have hk1 : (k : Int) < (n : Int) := by omega
          have hk2 : k < n := by omega
          have hp1 : (0 : Int) ≤ (k : Int) + 1 := by omega
          have hp2 : ((k : Int) + 1).toNat = k + 1 := by omega
          have hnb := own_far own5 hbB
          have hln := brk_len L k
          go_region_held3 (fun w' => w'.cell? ⟨b, off + k * 4 + 1, none⟩ = some (.int .i64 (L k).t) ∧ w'.cell? ⟨b, off + (k + 1) * 4, none⟩ = some (.int .i64 (L (k + 1)).f))
            (first
              | go_keep
              | (go_split_ands
                 refine ⟨?_, ?_⟩
                 · (rw [hgrow.cell_far _ (by simp; omega) hnb]; assumption)
                 · (rw [hgrow.cell_far _ (by simp; omega) hnb]; assumption)))
            ((refine step_append_lies _ (by rfl) _ _ _ (by rfl) w.heap.size 31 i0 _ 3 24 Try.underlying26 hi hz0 hz1 hz2 rfl (by omega) _ _ _ (by rfl) (ownsRow_drew (own5.alloc _))
                ⟨w5.heap.size, 0, none⟩ 1 1 [.int .i64 (L k).t, .int .i64 (L (k + 1)).f, .int .i64 ((L (k + 1)).f - (L k).t)] (by rfl) (by rfl) (World.news_of_block (cs := #[.int .i64 (L k).t, .int .i64 (L (k + 1)).f, .int .i64 ((L (k + 1)).f - (L k).t)]) (t := 31) (fr := (0, 0)) (heap_alloc_new w5 _)) (by simp [Value.oneCell'])
                (by omega) (by unfold maxLen; omega) (by omega) (by simp; omega) (w5.heap.size + 1) (by simp) ?_; intro gg cap w6 hown6 hgrow hat hlt9))
          go_wp2_with fail
          go_roundw
          case rel =>
            refine ⟨k + 1, by omega, by go_num, ?_, ((hb5.alloc hs5 _).drew.grown hgrow (by simp; omega) (fun q hq => (own5.lt q hq).1))⟩
            refine own_sg ?_ HG.out.symm
            rw [List.length_append, List.flatMap_append]
            exact hown6
          case measure => simp [intOf]; omega
      · have hz : breaksL n L = brk L k := by rw [breaksL, if_pos hok, show n - 1 = k by omega]
        have HZ := Lib.hid hz.symm
        clear hz
        go_wp2_with fail
        go_ret
        exact ⟨_, rfl, own_sg hown HZ.out, hbr⟩
end Go.Proofs.Ytmbmpogdakoloaa
