/- Books of rules: read, weighed, copied, compared. Conditions: the rules can be read. -/
import Derived.Test.YtjnckhdmaebfdaaRule
namespace Go.Proofs.Ytjnckhdmaebfdaa
open Go.RowKit

/-- A rule with its nodes. -/
structure Rn where
  s : Ru
  A : Option Addr
  n : Nat
  c : Nat
  N : Nat → No
abbrev Rn.cells (r : Rn) : List Value := [.int .i64 r.s.nm, .int .i64 r.s.fr, .int .i64 r.s.to, .int .i64 r.s.jo, .int .i64 r.s.ra, .int .i64 r.s.mo, .slice r.A r.n r.c]
abbrev Rn.val (r : Rn) : Value := .agg #[.int .i64 r.s.nm, .int .i64 r.s.fr, .int .i64 r.s.to, .int .i64 r.s.jo, .int .i64 r.s.ra, .int .i64 r.s.mo, .slice r.A r.n r.c]
def Rn.zero : Rn := ⟨Ru.zero, none, 0, 0, fun _ => No.zero⟩
/-- The cells of a row of rules, in their order. -/
def ruAt (R : Nat → Rn) (j : Nat) : Value := (R (j / 7)).cells.getD (j % 7) undef
/-- m rules lie at A, in blocks below B, their nodes too. -/
def RdRu (w : World) (B : Nat) (A : Option Addr) (m : Nat) (R : Nat → Rn) : Prop :=
  m ≤ 9223372036854775807 ∧ ∀ i, i < m → (∃ b off, A = some ⟨b, off, none⟩ ∧ b < B ∧ w.cell? ⟨b, off + i * 7, none⟩ = some (.int .i64 (R i).s.nm) ∧ w.cell? ⟨b, off + i * 7 + 1, none⟩ = some (.int .i64 (R i).s.fr) ∧ w.cell? ⟨b, off + i * 7 + 2, none⟩ = some (.int .i64 (R i).s.to) ∧ w.cell? ⟨b, off + i * 7 + 3, none⟩ = some (.int .i64 (R i).s.jo) ∧ w.cell? ⟨b, off + i * 7 + 4, none⟩ = some (.int .i64 (R i).s.ra) ∧ w.cell? ⟨b, off + i * 7 + 5, none⟩ = some (.int .i64 (R i).s.mo) ∧ w.cell? ⟨b, off + i * 7 + 6, none⟩ = some (.slice (R i).A (R i).n (R i).c)) ∧ RdNo w B (R i).A (R i).n (R i).N
section
variable {w w' : World} {B m : Nat} {A : Option Addr} {R R' : Nat → Rn}
theorem ruAt0 (R : Nat → Rn) (i : Nat) : ruAt R (i * 7) = .int .i64 (R i).s.nm := by
  rw [ruAt, show (i * 7) / 7 = i by omega, show (i * 7) % 7 = 0 by omega]
  rfl
theorem ruAt1 (R : Nat → Rn) (i : Nat) : ruAt R (i * 7 + 1) = .int .i64 (R i).s.fr := by
  rw [ruAt, show (i * 7 + 1) / 7 = i by omega, show (i * 7 + 1) % 7 = 1 by omega]
  rfl
theorem ruAt2 (R : Nat → Rn) (i : Nat) : ruAt R (i * 7 + 2) = .int .i64 (R i).s.to := by
  rw [ruAt, show (i * 7 + 2) / 7 = i by omega, show (i * 7 + 2) % 7 = 2 by omega]
  rfl
theorem ruAt3 (R : Nat → Rn) (i : Nat) : ruAt R (i * 7 + 3) = .int .i64 (R i).s.jo := by
  rw [ruAt, show (i * 7 + 3) / 7 = i by omega, show (i * 7 + 3) % 7 = 3 by omega]
  rfl
theorem ruAt4 (R : Nat → Rn) (i : Nat) : ruAt R (i * 7 + 4) = .int .i64 (R i).s.ra := by
  rw [ruAt, show (i * 7 + 4) / 7 = i by omega, show (i * 7 + 4) % 7 = 4 by omega]
  rfl
theorem ruAt5 (R : Nat → Rn) (i : Nat) : ruAt R (i * 7 + 5) = .int .i64 (R i).s.mo := by
  rw [ruAt, show (i * 7 + 5) / 7 = i by omega, show (i * 7 + 5) % 7 = 5 by omega]
  rfl
theorem ruAt6 (R : Nat → Rn) (i : Nat) : ruAt R (i * 7 + 6) = .slice (R i).A (R i).n (R i).c := by
  rw [ruAt, show (i * 7 + 6) / 7 = i by omega, show (i * 7 + 6) % 7 = 6 by omega]
  rfl
theorem RdRu.below (h : RdRu w B A m R) (hb : Below B w w') : RdRu w' B A m R :=
  ⟨h.1, fun i hi => by
    obtain ⟨⟨b, off, e, hlt, h0, h1, h2, h3, h4, h5, h6⟩, hn⟩ := h.2 i hi
    have hk := fun o => hb.cell (p := ⟨b, o, none⟩) hlt
    exact ⟨⟨b, off, e, hlt, by rw [hk]; exact h0, by rw [hk]; exact h1, by rw [hk]; exact h2, by rw [hk]; exact h3, by rw [hk]; exact h4, by rw [hk]; exact h5, by rw [hk]; exact h6⟩, hn.below hb⟩⟩
theorem RdRu.more (h : RdRu w B A m R) {B' : Nat} (hB : B ≤ B') : RdRu w B' A m R :=
  ⟨h.1, fun i hi => by
    obtain ⟨⟨b, off, e, hlt, hc⟩, hn⟩ := h.2 i hi
    exact ⟨⟨b, off, e, by omega, hc⟩, hn.more hB⟩⟩
theorem RdRu.row {g M : Nat} {ty : TypeId} (h : w.rowIs g ty M (ruAt R)) (hB : g < B) (hM : m * 7 ≤ M) (hm : m ≤ 9223372036854775807) (hn : ∀ i, i < m → RdNo w B (R i).A (R i).n (R i).N) : RdRu w B (some ⟨g, 0, none⟩) m R :=
  ⟨hm, fun i hi => ⟨⟨g, 0, rfl, hB, by rw [Nat.zero_add, h.cell (by omega), ruAt0], by rw [Nat.zero_add, h.cell (by omega), ruAt1], by rw [Nat.zero_add, h.cell (by omega), ruAt2], by rw [Nat.zero_add, h.cell (by omega), ruAt3], by rw [Nat.zero_add, h.cell (by omega), ruAt4], by rw [Nat.zero_add, h.cell (by omega), ruAt5], by rw [Nat.zero_add, h.cell (by omega), ruAt6]⟩, hn i hi⟩⟩
theorem RdRu.less (h : RdRu w B A m R) {m' : Nat} (hm : m' ≤ m) : RdRu w B A m' R := ⟨by have := h.1; omega, fun i hi => h.2 i (by omega)⟩
theorem RdRu.node (h : RdRu w B A m R) {i : Nat} (hi : i < m) : RdNo w B (R i).A (R i).n (R i).N := (h.2 i hi).2
end
/-- What the rules weigh. -/
def wtR (R : Nat → Rn) : Nat → Nat
  | 0 => 0
  | k + 1 => wtR R k + (R k).n
theorem wtR_mono (R : Nat → Rn) : ∀ {j k : Nat}, j ≤ k → wtR R j ≤ wtR R k
  | j, 0, h => by
    obtain rfl : j = 0 := by omega
    exact Nat.le_refl _
  | j, k + 1, h => by
    by_cases e : j = k + 1
    · subst e; exact Nat.le_refl _
    · have := wtR_mono R (show j ≤ k by omega); rw [wtR]; omega
theorem wtR_at (R : Nat → Rn) {i k : Nat} (h : i < k) : (R i).n ≤ wtR R k := by
  have := wtR_mono R (show i + 1 ≤ k by omega)
  rw [wtR] at this
  omega
/-- The rules are the same but for where their nodes lie. -/
def sameR (R R' : Nat → Rn) (m : Nat) : Prop := ∀ i, i < m → (R' i).s = (R i).s ∧ (R' i).n = (R i).n ∧ (R' i).N = (R i).N

set_option maxRecDepth 4000 in
set_option maxHeartbeats 1600000 in
theorem szRulesFrom (w : World) (A : Option Addr) (m c : Nat) (R : Nat → Rn) (z : Int) (h : RdRu w w.heap.size A m R) (hz : 0 ≤ z ∧ z ≤ 1048576) :
    Calls Try.prog 62 #[.slice A m c, .int .i64 z] w fun e w' => e = .returned (.int .i64 (if z < ((m + wtR R m : Nat) : Int) then -1 else z - ((m + wtR R m : Nat) : Int))) ∧ Below w.heap.size w w' := by
  have hm := h.1
  have h1 : IntKind.i64.wrap (z - (m : Int)) = z - m := IntWalk.i64_in _ ⟨by omega, by omega⟩
  by_cases hlt0 : z < (m : Int)
  · rw [if_pos (by omega)]
    have h2 : z - (m : Int) < 0 := by omega
    go_enter Try.func62, Try.ntmps62
    go_wp2_with fail
    go_ret
    exact ⟨rfl, Below.refl _ _⟩
  · have h2 : ¬ z - (m : Int) < 0 := by omega
    obtain ⟨V, hV⟩ : ∃ V, V = if z < ((m + wtR R m : Nat) : Int) then -1 else z - ((m + wtR R m : Nat) : Int) := ⟨_, rfl⟩
    rw [← hV]
    have HV := Lib.hid hV
    clear hV
    go_enter Try.func62, Try.ntmps62
    go_wp2_with fail
    go_loopw [1, 5] (fun q i wr => ∃ (k : Nat) (y : Int), k ≤ m ∧ i = .int .i64 k ∧ q = .int .i64 y ∧ Hid (y = z - ((m + wtR R k : Nat) : Int)) ∧ 0 ≤ y ∧ y ≤ 1048576 ∧ Below w.heap.size w wr) (fun _ i _ => m - (intOf i).toNat)
    case atStart => exact ⟨0, _, Nat.zero_le _, rfl, rfl, Lib.hid (by simp [wtR]), by omega, by omega, Below.refl _ _⟩
    case round =>
      obtain ⟨k, y, hk, rfl, rfl, HY, hy0, hy1, hbr⟩ := hrel
      have hs1 := hbr.size
      by_cases hlt : k < m
      · obtain ⟨⟨b, off, rfl, hbB, h0, h1, h2, h3, h4, h5, h6⟩, hno⟩ := (h.below hbr).2 k hlt
        have hlt2 : (k : Int) < m := by omega
        have hst : wtR R (k + 1) = wtR R k + (R k).n := rfl
        have hmo := wtR_mono R (show k + 1 ≤ m by omega)
        have SZ := fun (v : World) => szRuleFrom v (R k).s (R k).A (R k).n (R k).c y hno.1 ⟨hy0, hy1⟩
        have hyk := HY.out
        clear h HY
        by_cases hx : y < ((R k).n : Int)
        · simp only [if_pos hx] at SZ
          have HF := Lib.hid (show V = -1 by rw [HV.out, if_pos (by omega)])
          clear HV hyk hst hmo
          go_wp2_with fail
          refine (SZ _).mono ?_
          rintro e w5 ⟨rfl, hb5⟩
          go_wp2_with fail
          go_ret
          exact ⟨ret_int HF.out.symm, hbr.trans (hb5.mono hs1)⟩
        · simp only [if_neg hx] at SZ
          have hq : ¬ y - ((R k).n : Int) < 0 := by omega
          have HQ := Lib.hid (show y - ((R k).n : Int) = z - ((m + wtR R (k + 1) : Nat) : Int) by omega)
          clear hst hyk hmo
          go_wp2_with fail
          refine (SZ _).mono ?_
          rintro e w5 ⟨rfl, hb5⟩
          go_wp2_with fail
          go_roundw
          case rel => exact ⟨k + 1, _, by omega, by go_num, rfl, HQ, by omega, by omega, hbr.trans (hb5.mono hs1)⟩
          case measure => simp [intOf]; omega
      · obtain rfl : k = m := by omega
        have HF := Lib.hid (show V = y by rw [HV.out, HY.out]; rw [if_neg (by have := HY.out; omega)])
        clear HV HY
        go_wp2_with fail
        go_ret
        exact ⟨ret_int HF.out.symm, hbr⟩
end Go.Proofs.Ytjnckhdmaebfdaa
