/- Marks in a book that the call owns, exactly, and that they hold; marks in a copy of a rule. Conditions: the rows are owned. -/
import Derived.Test.YtjnckhdmaebfdaaBook4
import Derived.Test.YtjnckhdmaebfdaaOwB
import Derived.Test.YtjnckhdmaebfdaaRule
namespace Go.Proofs.Ytjnckhdmaebfdaa
open Go.RowKit

set_option linter.unusedVariables false
def mkRu (k : Int) : Ru := ⟨k, k + 1, k + 2, k + 3, k + 4, k + 5⟩
/-- The mark at which rule i begins. -/
def kAt (R : Nat → Rn) (k : Int) (i : Nat) : Int := k + 6 * ((i + wtR R i : Nat) : Int)
/-- The rules, the first j of them marked from k on. -/
def mkB (R : Nat → Rn) (k : Int) (j i : Nat) : Rn := if i < j then ⟨mkRu (kAt R k i), (R i).A, (R i).n, (R i).c, mkNo (kAt R k i + 6)⟩ else R i
theorem mkB_lt (R : Nat → Rn) (k : Int) {j i : Nat} (h : i < j) : mkB R k j i = ⟨mkRu (kAt R k i), (R i).A, (R i).n, (R i).c, mkNo (kAt R k i + 6)⟩ := by rw [mkB, if_pos h]
theorem mkB_ge (R : Nat → Rn) (k : Int) {j i : Nat} (h : j ≤ i) : mkB R k j i = R i := by rw [mkB, if_neg (by omega)]
theorem mkB_zero (R : Nat → Rn) (k : Int) : mkB R k 0 = R := funext fun i => mkB_ge R k (Nat.zero_le _)
theorem mkB_nsl (R : Nat → Rn) (k : Int) (j i : Nat) : nsl (mkB R k j i) = nsl (R i) := by
  by_cases h : i < j
  · rw [mkB_lt R k h]
  · rw [mkB_ge R k (by omega)]
theorem mkB_n (R : Nat → Rn) (k : Int) (j i : Nat) : (mkB R k j i).n = (R i).n := by
  by_cases h : i < j
  · rw [mkB_lt R k h]
  · rw [mkB_ge R k (by omega)]
theorem mkB_ne (R : Nat → Rn) (k : Int) {j i : Nat} (h : i ≠ j) : mkB R k (j + 1) i = mkB R k j i := by
  by_cases e : i < j
  · rw [mkB_lt R k e, mkB_lt R k (by omega)]
  · rw [mkB_ge R k (by omega), mkB_ge R k (by omega)]
theorem kAt_succ (R : Nat → Rn) (k : Int) (j : Nat) : kAt R k (j + 1) = kAt R k j + 6 + 6 * ((R j).n : Int) := by
  rw [kAt, kAt, wtR]
  push_cast
  omega
theorem kAt_zero (R : Nat → Rn) (k : Int) : kAt R k 0 = k := by rw [kAt, wtR]; simp
/-- The cells of a row of rules behind six marks. -/
theorem ruAt_mark (R : Nat → Rn) (k : Int) (j m : Nat) (s : Int) (G : Nat → Value) (hG : ∀ x, x < m * 7 → G x = ruAt (mkB R k j) x) (hs : s = kAt R k j) (x : Nat) (hx : x < m * 7) :
    (if x = j * 7 + 5 then Value.int .i64 (s + 1 + 1 + 1 + 1 + 1) else if x = j * 7 + 4 then Value.int .i64 (s + 1 + 1 + 1 + 1) else if x = j * 7 + 3 then Value.int .i64 (s + 1 + 1 + 1) else if x = j * 7 + 2 then Value.int .i64 (s + 1 + 1) else if x = j * 7 + 1 then Value.int .i64 (s + 1) else if x = j * 7 then Value.int .i64 (s) else G x) = ruAt (mkB R k (j + 1)) x := by
  subst hs
  have hm := mkB_lt R k (Nat.lt_succ_self j)
  by_cases e5 : x = j * 7 + 5
  · subst e5
    rw [if_pos rfl, ruAt5, hm]
    refine congrArg (Value.int .i64) ?_
    show _ = kAt R k j + 5
    omega
  rw [if_neg e5]
  by_cases e4 : x = j * 7 + 4
  · subst e4
    rw [if_pos rfl, ruAt4, hm]
    refine congrArg (Value.int .i64) ?_
    show _ = kAt R k j + 4
    omega
  rw [if_neg e4]
  by_cases e3 : x = j * 7 + 3
  · subst e3
    rw [if_pos rfl, ruAt3, hm]
    refine congrArg (Value.int .i64) ?_
    show _ = kAt R k j + 3
    omega
  rw [if_neg e3]
  by_cases e2 : x = j * 7 + 2
  · subst e2
    rw [if_pos rfl, ruAt2, hm]
    refine congrArg (Value.int .i64) ?_
    show _ = kAt R k j + 2
    omega
  rw [if_neg e2]
  by_cases e1 : x = j * 7 + 1
  · subst e1
    rw [if_pos rfl, ruAt1, hm]
    refine congrArg (Value.int .i64) ?_
    show _ = kAt R k j + 1
    omega
  rw [if_neg e1]
  by_cases e0 : x = j * 7
  · subst e0
    rw [if_pos rfl, ruAt0, hm]
    refine congrArg (Value.int .i64) ?_
    show _ = kAt R k j
    omega
  rw [if_neg e0]
  rw [hG x hx]
  by_cases e6 : x = j * 7 + 6
  · subst e6
    rw [ruAt6, ruAt6, hm, mkB_ge R k (Nat.le_refl j)]
  · rw [ruAt, ruAt, mkB_ne R k (show x / 7 ≠ j by omega)]
/-- A book that the call owns: the row of its rules, and a row of nodes for each. -/
def OwF (w : World) (base : Nat) (v : Value) (m : Nat) (R : Nat → Rn) : Prop :=
  OwR w base 29 7 v m (ruAt R) ∧ (∀ i, i < m → OwR w base 65 6 (nsl (R i)) (R i).n (noAt (R i).N)) ∧ ∀ i j, i < j → j < m → ∀ q, (nsl (R i)).ownBlock = some q → (nsl (R j)).ownBlock ≠ some q
theorem OwB.fn {w : World} {base : Nat} {v : Value} {xs : List Rn} (h : OwB w base v xs) : OwF w base v xs.length (fun i => xs.getD i Rn.zero) := ⟨h.row, h.2.1, h.2.2⟩
section
variable {w w' : World} {base m : Nat} {v : Value} {R : Nat → Rn}
theorem OwF.all (h : OwF w base v m R) (hb : Below w.heap.size w w') : OwF w' base v m R := ⟨h.1.all hb, fun i hi => (h.2.1 i hi).all hb, h.2.2⟩
theorem OwF.mid {lo hi : Nat} (h : OwF w base v m R) (hm : Mid lo hi w w') (hb : hi ≤ base) : OwF w' base v m R := ⟨Mid.owr h.1 hm hb, fun i hi' => Mid.owr (h.2.1 i hi') hm hb, h.2.2⟩
theorem OwF.rd {B : Option Addr} {c : Nat} (h : OwF w base (.slice B m c) m R) : RdRu w w.heap.size B m R := by
  have hr := h.1
  rcases hr with ⟨hv, h0⟩ | ⟨g, cap, G, hv, hg, hn, hm, hr, hG⟩
  · exact ⟨by omega, fun i hi => by omega⟩
  · injection hv with hv1 _ hv2
    subst hv1 hv2
    have hc7 : m * 7 ≤ c * 7 := Nat.mul_le_mul_right _ hn
    have key : ∀ k, k < m * 7 → w.cell? ⟨g, k, none⟩ = some (ruAt R k) := fun k hk => by rw [hr.cell (i := k) (by omega), hG k hk]
    refine ⟨by unfold maxLen at hm; omega, fun i hi => ⟨⟨g, 0, rfl, hr.lt, ?_, ?_, ?_, ?_, ?_, ?_, ?_⟩, RdNo.own (h.2.1 i hi)⟩⟩
    · rw [Nat.zero_add, key _ (by omega), ruAt0]
    · rw [Nat.zero_add, key _ (by omega), ruAt1]
    · rw [Nat.zero_add, key _ (by omega), ruAt2]
    · rw [Nat.zero_add, key _ (by omega), ruAt3]
    · rw [Nat.zero_add, key _ (by omega), ruAt4]
    · rw [Nat.zero_add, key _ (by omega), ruAt5]
    · rw [Nat.zero_add, key _ (by omega), ruAt6]
theorem owr_apart_row {size n g N : Nat} {e t : TypeId} {F G : Nat → Value} (h : OwR w base e size v n F) (hr : w.rowIs g t N G) (hne : e ≠ t) : ∀ k, v.ownBlock = some k → some g ≠ some k := by
  obtain ⟨cs, hh, _⟩ := hr
  exact owr_apart h (t := t) (cs := cs) hh hne
end
/-- The blocks of other types are as they were. -/
def Kept2 (w w' : World) : Prop := ∀ (b : Nat) (t : TypeId) (cs : Array Value), Whole w b t cs → 29 ≠ t → 65 ≠ t → Whole w' b t cs
theorem Kept2.trans {a b c : World} (h : Kept2 a b) (k : Kept2 b c) : Kept2 a c := fun q t cs hw h1 h2 => k q t cs (h q t cs hw h1 h2) h1 h2
theorem Kept2.of_below {w w' : World} (h : Below w.heap.size w w') : Kept2 w w' := fun _ _ _ hw _ _ => hw.below h hw.lt
theorem Kept2.of_grown {w w' : World} {base n : Nat} {v : Value} {F : Nat → Value} (ho : OwR w base 65 6 v n F) (h : w.grownBy w' v.ownBlock) : Kept2 w w' := fun b t cs hw _ h2 => by
  refine (h.block b hw.lt fun e => ?_).trans hw
  cases hv : v.ownBlock with
  | none => rw [hv] at e; cases e
  | some q =>
    rw [hv] at e
    injection e with e
    exact owr_apart ho hw h2 q hv (by rw [e])
theorem Kept2.of_row {w w' : World} {g N : Nat} {F : Nat → Value} (hr : w.rowIs g 29 N F) (h : w.grownBy w' (some g)) : Kept2 w w' := fun b t cs hw h1 _ => by
  refine (h.block b hw.lt fun e => ?_).trans hw
  injection e with e
  subst e
  obtain ⟨c, hh, _⟩ := hr
  unfold Whole at hw
  rw [hh] at hw
  injection hw with hw
  injection hw with _ ht
  exact h1 ht
theorem OwF.marked {w w7 w2 : World} {base m g c j N : Nat} {R : Nat → Rn} {k : Int} {F : Nat → Value} (h : OwF w base (.slice (some ⟨g, 0, none⟩) m c) m (mkB R k j)) (hj : j < m) (hr : w.rowIs g 29 N F) (hgs : w.grownBy w7 (some g))
    (hr7 : OwR w7 base 29 7 (.slice (some ⟨g, 0, none⟩) m c) m (ruAt (mkB R k (j + 1)))) (ho2 : OwR w2 base 65 6 (nsl (R j)) (R j).n (noAt (mkNo (kAt R k j + 6)))) (hg2 : w7.grownBy w2 (nsl (R j)).ownBlock) :
    OwF w2 base (.slice (some ⟨g, 0, none⟩) m c) m (mkB R k (j + 1)) := by
  have hap : ∀ i, i < m → ∀ q, (nsl (R i)).ownBlock = some q → some g ≠ some q := fun i hi => by
    have k := owr_apart_row (h.2.1 i hi) hr (by decide)
    rw [mkB_nsl] at k
    exact k
  refine ⟨hr7.kept hg2 fun q hq e => ?_, fun i hi => ?_, fun a b hab hb q => ?_⟩
  · simp only [Value.ownBlock, Option.some.injEq] at hq
    subst hq
    exact hap j hj g e rfl
  · by_cases e : i = j
    · subst e
      rw [mkB_lt R k (Nat.lt_succ_self i)]
      exact ho2
    · rw [mkB_ne R k e]
      have h1 := (h.2.1 i hi).kept hgs (owr_apart_row (h.2.1 i hi) hr (by decide))
      refine h1.kept hg2 fun q hq e2 => ?_
      rw [mkB_nsl] at hq
      rcases Nat.lt_or_ge i j with hl | hl
      · have k0 := h.2.2 i j hl hj q
        rw [mkB_nsl, mkB_nsl] at k0
        exact k0 hq e2
      · have k0 := h.2.2 j i (by omega) hi q
        rw [mkB_nsl, mkB_nsl] at k0
        exact k0 e2 hq
  · have k0 := h.2.2 a b hab hb q
    rw [mkB_nsl, mkB_nsl] at k0 ⊢
    exact k0

set_option maxRecDepth 8000 in
set_option maxHeartbeats 3200000 in
theorem markRulesF (w : World) (base : Nat) (A : Option Addr) (m c : Nat) (R : Nat → Rn) (k : Int) (h : OwF w base (.slice A m c) m R) (hB : base ≤ w.heap.size) (hW : m + wtR R m ≤ 4194304) (hk : 0 ≤ k) (hk' : k ≤ 1048576) :
    Calls Try.prog 68 #[.slice A m c, .int .i64 k] w fun e w' => e = .returned (.int .i64 (kAt R k m)) ∧ OwF w' base (.slice A m c) m (mkB R k m) ∧ Kept2 w w' ∧ Below base w w' := by
  go_enter Try.func68, Try.ntmps68
  go_wp2_with fail
  go_loopw [1, 5] (fun q i wr => ∃ j : Nat, j ≤ m ∧ i = .int .i64 j ∧ q = .int .i64 (kAt R k j) ∧ OwF wr base (.slice A m c) m (mkB R k j) ∧ Kept2 w wr ∧ Below base w wr) (fun _ i _ => m - (intOf i).toNat)
  case atStart => exact ⟨0, Nat.zero_le _, rfl, by rw [kAt_zero], by rw [mkB_zero]; exact h, fun _ _ _ hw _ _ => hw, Below.refl _ _⟩
  case round =>
    clear h
    obtain ⟨j, hj, rfl, rfl, ho, hkp, hbr⟩ := hrel
    by_cases hlt : j < m
    · obtain ⟨s, hs⟩ : ∃ s : Int, s = kAt R k j := ⟨_, rfl⟩
      have hwt : wtR R j + (R j).n ≤ wtR R m := wtR_mono R (show j + 1 ≤ m by omega)
      have hs9 : s = k + 6 * ((j + wtR R j : Nat) : Int) := hs
      rw [← hs]
      have hs0 : 0 ≤ s := by omega
      have hs1 : s ≤ 1000000000 := by omega
      have hnj : (R j).n ≤ 4194304 := by omega
      have hbs := hbr.size
      have HO := Lib.hid ho
      have hoj := ho.2.1 j hlt
      rw [mkB_ge R k (Nat.le_refl j)] at hoj
      rcases ho.1 with ⟨_, h0⟩ | ⟨g, cap, G, hv, hgb, hnc, hcm, hr, hG⟩
      · omega
      injection hv with hv1 _ hv2
      subst hv1 hv2
      have hj7 : j * 7 + 7 ≤ m * 7 := by omega
      have hc7 : m * 7 ≤ c * 7 := Nat.mul_le_mul_right _ hnc
      have c0 := hr.cell (i := j * 7) (by omega)
      have c1 := hr.cell (i := j * 7 + 1) (by omega)
      have c2 := hr.cell (i := j * 7 + 2) (by omega)
      have c3 := hr.cell (i := j * 7 + 3) (by omega)
      have c4 := hr.cell (i := j * 7 + 4) (by omega)
      have c5 := hr.cell (i := j * 7 + 5) (by omega)
      have c6 := hr.cell (i := j * 7 + 6) (by omega)
      rw [hG _ (by omega), ruAt6, mkB_ge R k (Nat.le_refl j)] at c6
      have f0 := fun o => hr.frozen o
      have w1 : IntKind.i64.wrap (s + 1) = s + 1 := IntWalk.i64_in _ ⟨by omega, by omega⟩
      have w2 : IntKind.i64.wrap (s + 1 + 1) = s + 1 + 1 := IntWalk.i64_in _ ⟨by omega, by omega⟩
      have w3 : IntKind.i64.wrap (s + 1 + 1 + 1) = s + 1 + 1 + 1 := IntWalk.i64_in _ ⟨by omega, by omega⟩
      have w4 : IntKind.i64.wrap (s + 1 + 1 + 1 + 1) = s + 1 + 1 + 1 + 1 := IntWalk.i64_in _ ⟨by omega, by omega⟩
      have w5 : IntKind.i64.wrap (s + 1 + 1 + 1 + 1 + 1) = s + 1 + 1 + 1 + 1 + 1 := IntWalk.i64_in _ ⟨by omega, by omega⟩
      have w6 : IntKind.i64.wrap (s + 1 + 1 + 1 + 1 + 1 + 1) = s + 1 + 1 + 1 + 1 + 1 + 1 := IntWalk.i64_in _ ⟨by omega, by omega⟩
      have hgl := hr.lt
      have hap := owr_apart_row hoj hr (by decide)
      have hgs := (grown_setCell (grown_setCell (grown_setCell (grown_setCell (grown_setCell (grown_setCell (grown_refl wr _) (p := ⟨g, j * 7, none⟩) rfl (.int .i64 s)) (p := ⟨g, j * 7 + 1, none⟩) rfl (.int .i64 (s + 1))) (p := ⟨g, j * 7 + 2, none⟩) rfl (.int .i64 (s + 1 + 1))) (p := ⟨g, j * 7 + 3, none⟩) rfl (.int .i64 (s + 1 + 1 + 1))) (p := ⟨g, j * 7 + 4, none⟩) rfl (.int .i64 (s + 1 + 1 + 1 + 1))) (p := ⟨g, j * 7 + 5, none⟩) rfl (.int .i64 (s + 1 + 1 + 1 + 1 + 1)))
      have hoj7 := hoj.kept hgs hap
      have hr2 := ((((((hr.set (j * 7) (.int .i64 (s))).set (j * 7 + 1) (.int .i64 (s + 1))).set (j * 7 + 2) (.int .i64 (s + 1 + 1))).set (j * 7 + 3) (.int .i64 (s + 1 + 1 + 1))).set (j * 7 + 4) (.int .i64 (s + 1 + 1 + 1 + 1))).set (j * 7 + 5) (.int .i64 (s + 1 + 1 + 1 + 1 + 1)))
      have hr7 : OwR _ base 29 7 (.slice (some ⟨g, 0, none⟩) m c) m (ruAt (mkB R k (j + 1))) := .inr ⟨g, c, _, rfl, hgb, hnc, hcm, hr2, fun x hx => ruAt_mark R k j m s G hG hs x hx⟩
      have HR7 := Lib.hid hr7
      have hk7 := hkp.trans (Kept2.of_row hr hgs)
      have HR := Lib.hid hr
      have HS := Lib.hid hs
      have hlow := hoj.lt
      clear hr2 hr7 hr hG ho hs hs9 hoj hap
      go_wp2_with fail
      refine (markNodes _ base _ _ _ _ _ hoj7 (by omega) (by omega) (by omega)).mono ?_
      rintro e w2 ⟨rfl, ho2, hg2⟩
      clear c0 c1 c2 c3 c4 c5 c6 f0
      have hon : OwF w2 base (.slice (some ⟨g, 0, none⟩) m c) m (mkB R k (j + 1)) := OwF.marked HO.out hlt HR.out hgs HR7.out (by rw [← HS.out]; have k := ho2; simp only [Int.add_assoc] at k ⊢; exact k) hg2
      have hk2 := hk7.trans (Kept2.of_grown hoj7 hg2)
      have hb7 := below_of_grown hgs hgb (by omega)
      have hb2 : Below base w w2 := (hbr.trans hb7).grown hg2 (by have := hb7.size; omega) (fun q hq => (hlow q hq).1)
      have hkn : kAt R k (j + 1) = s + 6 + 6 * ((R j).n : Int) := by rw [kAt_succ, ← HS.out]
      clear ho2 hg2 hb7 hbr hoj7 hgs
      go_wp2_with fail
      go_roundw
      case rel => exact ⟨j + 1, by omega, by go_num, by rw [hkn]; refine congrArg (Value.int .i64) ?_; omega, hon, hk2, hb2⟩
      case measure => simp [intOf]; omega
    · obtain rfl : j = m := by omega
      go_wp2_with fail
      go_ret
      exact ⟨rfl, ho, hkp, hbr⟩

set_option maxHeartbeats 800000 in
theorem markBookF (w : World) (base : Nat) (A : Option Addr) (m c : Nat) (R : Nat → Rn) (k : Int) (h : OwF w base (.slice A m c) m R) (hB : base ≤ w.heap.size) (hW : m + wtR R m ≤ 4194304) (hk : 0 ≤ k) (hk' : k ≤ 1048576) :
    Calls Try.prog 35 #[.agg #[.slice A m c], .int .i64 k] w fun e w' => e = .returned (.int .i64 (kAt R k m)) ∧ OwF w' base (.slice A m c) m (mkB R k m) ∧ Kept2 w w' ∧ Below base w w' := by
  have hbx : Below base w (w.alloc (.cells #[.slice A m c] 37)) := (Below.refl _ _).alloc hB _
  go_enter Try.func35, Try.ntmps35
  go_wp2_with fail
  refine (markRulesF _ base A m c R k (h.all ((Below.refl _ _).alloc (Nat.le_refl _) _)) (by simp; omega) hW hk hk').mono ?_
  rintro e w1 ⟨rfl, ho, hk1, hb1⟩
  go_wp2_with fail
  go_ret
  exact ⟨rfl, ho, (Kept2.of_below ((Below.refl _ _).alloc (Nat.le_refl _) _)).trans hk1, hbx.trans hb1⟩

set_option maxRecDepth 8000 in
set_option maxHeartbeats 3200000 in
theorem heldRulesF (w : World) (A : Option Addr) (m c : Nat) (R : Nat → Rn) (k : Int) (h : RdRu w w.heap.size A m (mkB R k m)) (hW : m + wtR R m ≤ 4194304) (hk : 0 ≤ k) (hk' : k ≤ 1048576) :
    Calls Try.prog 74 #[.slice A m c, .int .i64 k] w fun e w' => e = .returned (.int .i64 (kAt R k m)) ∧ w = w' := by
  go_enter Try.func74, Try.ntmps74
  go_wp2_with fail
  go_loopw [1, 5] (fun q i wr => ∃ j : Nat, j ≤ m ∧ i = .int .i64 j ∧ q = .int .i64 (kAt R k j) ∧ w = wr) (fun _ i _ => m - (intOf i).toNat)
  case atStart => exact ⟨0, Nat.zero_le _, rfl, by rw [kAt_zero], rfl⟩
  case round =>
    obtain ⟨j, hj, rfl, rfl, rfl⟩ := hrel
    by_cases hlt : j < m
    · obtain ⟨s, hs⟩ : ∃ s : Int, s = kAt R k j := ⟨_, rfl⟩
      have hwt : wtR R j + (R j).n ≤ wtR R m := wtR_mono R (show j + 1 ≤ m by omega)
      have hs9 : s = k + 6 * ((j + wtR R j : Nat) : Int) := hs
      have hkn : kAt R k (j + 1) = s + 6 + 6 * ((R j).n : Int) := by rw [kAt_succ, ← hs]
      rw [← hs]
      have hs0 : 0 ≤ s := by omega
      have hs1 : s ≤ 1000000000 := by omega
      have hnj : (R j).n ≤ 4194304 := by omega
      obtain ⟨⟨b, off, rfl, hbB, c0, c1, c2, c3, c4, c5, c6⟩, hno⟩ := h.2 j hlt
      rw [mkB_lt R k hlt, ← hs] at c0 c1 c2 c3 c4 c5 c6 hno
      replace c0 : w.cell? ⟨b, off + j * 7, none⟩ = some (.int .i64 s) := c0
      replace c1 : w.cell? ⟨b, off + j * 7 + 1, none⟩ = some (.int .i64 (s + 1)) := c1.trans (by simp only [mkRu]; try (congr 2; omega))
      replace c2 : w.cell? ⟨b, off + j * 7 + 2, none⟩ = some (.int .i64 (s + 1 + 1)) := c2.trans (by simp only [mkRu]; try (congr 2; omega))
      replace c3 : w.cell? ⟨b, off + j * 7 + 3, none⟩ = some (.int .i64 (s + 1 + 1 + 1)) := c3.trans (by simp only [mkRu]; try (congr 2; omega))
      replace c4 : w.cell? ⟨b, off + j * 7 + 4, none⟩ = some (.int .i64 (s + 1 + 1 + 1 + 1)) := c4.trans (by simp only [mkRu]; try (congr 2; omega))
      replace c5 : w.cell? ⟨b, off + j * 7 + 5, none⟩ = some (.int .i64 (s + 1 + 1 + 1 + 1 + 1)) := c5.trans (by simp only [mkRu]; try (congr 2; omega))
      replace c6 : w.cell? ⟨b, off + j * 7 + 6, none⟩ = some (.slice (R j).A (R j).n (R j).c) := c6
      replace hno : RdNo w w.heap.size (R j).A (R j).n (mkNo (s + 6)) := hno
      have e6 : s + 6 = s + 1 + 1 + 1 + 1 + 1 + 1 := by omega
      rw [e6] at hno
      have w1 : IntKind.i64.wrap (s + 1) = s + 1 := IntWalk.i64_in _ ⟨by omega, by omega⟩
      have w2 : IntKind.i64.wrap (s + 1 + 1) = s + 1 + 1 := IntWalk.i64_in _ ⟨by omega, by omega⟩
      have w3 : IntKind.i64.wrap (s + 1 + 1 + 1) = s + 1 + 1 + 1 := IntWalk.i64_in _ ⟨by omega, by omega⟩
      have w4 : IntKind.i64.wrap (s + 1 + 1 + 1 + 1) = s + 1 + 1 + 1 + 1 := IntWalk.i64_in _ ⟨by omega, by omega⟩
      have w5 : IntKind.i64.wrap (s + 1 + 1 + 1 + 1 + 1) = s + 1 + 1 + 1 + 1 + 1 := IntWalk.i64_in _ ⟨by omega, by omega⟩
      have w6 : IntKind.i64.wrap (s + 1 + 1 + 1 + 1 + 1 + 1) = s + 1 + 1 + 1 + 1 + 1 + 1 := IntWalk.i64_in _ ⟨by omega, by omega⟩
      have HK := Lib.hid hkn
      clear h hs hs9 hkn e6
      go_wp2_with fail
      refine (heldNodes _ _ _ _ _ hno (by omega) (by omega) (by omega)).mono ?_
      rintro e w' ⟨rfl, rfl⟩
      have hq : ¬ s + 1 + 1 + 1 + 1 + 1 + 1 + 6 * ((R j).n : Int) < 0 := by omega
      clear c0 c1 c2 c3 c4 c5 c6 hno
      go_wp2_with fail
      go_roundw
      case rel => exact ⟨j + 1, by omega, by go_num, by rw [HK.out]; refine congrArg (Value.int .i64) ?_; omega, by first | rfl | trivial⟩
      case measure => simp [intOf]; omega
    · obtain rfl : j = m := by omega
      go_wp2_with fail
      go_ret
      exact ⟨rfl, rfl⟩

set_option maxHeartbeats 800000 in
theorem heldBookF (w : World) (A : Option Addr) (m c : Nat) (R : Nat → Rn) (k : Int) (h : RdRu w w.heap.size A m (mkB R k m)) (hW : m + wtR R m ≤ 4194304) (hk : 0 ≤ k) (hk' : k ≤ 1048576) :
    Calls Try.prog 41 #[.agg #[.slice A m c], .int .i64 k] w fun e w' => e = .returned (.int .i64 (kAt R k m)) ∧ Below w.heap.size w w' := by
  have hbx : Below w.heap.size w (w.alloc (.cells #[.slice A m c] 37)) := (Below.refl _ _).alloc (Nat.le_refl _) _
  have HR := heldRulesF _ A m c R k ((h.below hbx).more hbx.size) hW hk hk'
  obtain ⟨s, hs⟩ : ∃ s : Int, s = kAt R k m := ⟨_, rfl⟩
  have hs9 : s = k + 6 * ((m + wtR R m : Nat) : Int) := hs
  have hs0 : ¬ s < 0 := by omega
  rw [← hs] at HR ⊢
  clear hs hs9 h
  go_enter Try.func41, Try.ntmps41
  go_wp2_with fail
  refine HR.mono ?_
  rintro e w1 ⟨rfl, rfl⟩
  go_wp2_with fail
  go_ret
  exact ⟨rfl, hbx⟩

set_option maxHeartbeats 800000 in
theorem markRuleM (w : World) (base hi g n : Nat) (s : Ru) (F : Nat → Value) (k : Int) (h : w.rowIs g 65 (n * 6) F) (hb : base ≤ g) (hgh : g < hi) (hB : base ≤ w.heap.size) (hn : n ≤ 1048576) (hk : 0 ≤ k) (hk' : k ≤ 1099511627776) :
    Calls Try.prog 40 #[.agg #[.int .i64 s.nm, .int .i64 s.fr, .int .i64 s.to, .int .i64 s.jo, .int .i64 s.ra, .int .i64 s.mo, .slice (some ⟨g, 0, none⟩) n n], .int .i64 k] w fun e w' => (∃ s : Int, e = .returned (.int .i64 s) ∧ 0 ≤ s) ∧ Mid base hi w w' := by
  have hbq := (Below.refl w.heap.size w).alloc (Nat.le_refl _) (.cells #[.int .i64 s.nm, .int .i64 s.fr, .int .i64 s.to, .int .i64 s.jo, .int .i64 s.ra, .int .i64 s.mo, .slice (some ⟨g, 0, none⟩) n n] 29)
  have hbx := Mid.of_below (hi := hi) hbq hB
  have ho := (OwR.of_row h hb (by unfold maxLen; omega)).all hbq
  have hx : base ≤ (w.alloc (.cells #[.int .i64 s.nm, .int .i64 s.fr, .int .i64 s.to, .int .i64 s.jo, .int .i64 s.ra, .int .i64 s.mo, .slice (some ⟨g, 0, none⟩) n n] 29)).heap.size := by simp; omega
  go_enter Try.func40, Try.ntmps40
  go_wp2_with fail
  refine (markNodes _ base _ n n F k ho (by omega) hk hk').mono ?_
  rintro e w1 ⟨rfl, -, hg⟩
  go_wp2_with fail
  go_ret
  exact ⟨⟨_, rfl, by omega⟩, hbx.trans (Mid.of_grown hg hb hgh hx)⟩
end Go.Proofs.Ytjnckhdmaebfdaa
