/- Averages of the pay, of the program and of the reference. No conditions. -/
import Derived.Test.YtondmakaednpdaaReval
import Derived.Test.YtondmakaednpdaaSFrac2
import Derived.Maps.OwnSet
namespace Go.Proofs.Ytondmakaednpdaa
open Go.RowKit

/-- The sum and the number of the values of k months from a on. -/
def avS (f : Int → Option Int) (a : Int) : Nat → Int
  | 0 => 0
  | k + 1 => avS f a k + (f (a + (k : Int))).getD 0
def avC (f : Int → Option Int) (a : Int) : Nat → Int
  | 0 => 0
  | k + 1 => avC f a k + if (f (a + (k : Int))).isSome = true then 1 else 0
def avgL (f : Int → Option Int) (a b : Int) : Option Fr := if avC f a (b - a).toNat = 0 then none else redL (avS f a (b - a).toNat) (avC f a (b - a).toNat)
theorem avS_bd {f : Int → Option Int} (hf : ∀ m v, f m = some v → -1000000000 ≤ v ∧ v ≤ 1000000000) (a : Int) : ∀ k : Nat, -(1000000000 * (k : Int)) ≤ avS f a k ∧ avS f a k ≤ 1000000000 * (k : Int)
  | 0 => by simp [avS]
  | k + 1 => by
    have ih := avS_bd hf a k
    rw [avS]
    cases h : f (a + (k : Int)) with
    | none => simp; omega
    | some v => have := hf _ _ h; simp; omega
theorem avC_bd (f : Int → Option Int) (a : Int) : ∀ k : Nat, 0 ≤ avC f a k ∧ avC f a k ≤ (k : Int)
  | 0 => by simp [avC]
  | k + 1 => by
    have ih := avC_bd f a k
    rw [avC]
    split <;> omega
def payF (L : Nat → Fa) (n : Nat) (known m : Int) : Option Int := valFrom L 1 m known n
def payAvgL (n : Nat) (L : Nat → Fa) (a b known : Int) : Option Fr := if (stOk n L && (endB a && endB b)) = true then avgL (payF L n known) a b else none
theorem payF_bd {n : Nat} {L : Nat → Fa} (h : stOk n L = true) (known : Int) : ∀ m v, payF L n known m = some v → -1000000000 ≤ v ∧ v ≤ 1000000000 := fun _ v hv => by
  obtain ⟨j, hj, rfl⟩ := valFrom_mem hv
  exact stOk_val h hj

open Go.Maps
theorem intLaw : Keyed Try.prog 3 := int_keyed Try.underlying3
theorem intZero (w : World) : (zeroValue 3).run Try.prog w = .ok (.int .i64 0) w := by kernel_rfl
theorem wf64 {x : Int} (h : -9223372036854775808 ≤ x ∧ x ≤ 9223372036854775807) : (Lit.int .i64 x).wf = true := WalkArith.wf_i64 h
/-- Block b is a map that holds just the values of f. -/
def payD (w : World) (b N : Nat) (f : Int → Option Int) : Prop :=
  ∃ D : DataW Unit, w.ownsMap Try.prog 3 (plainElem Try.prog 3) b N D ∧ ∀ m : Int, D.atKey (.int .i64 m) (.lit (.int .i64 0)) = .lit (.int .i64 ((f m).getD 0)) ∧ Maps.has D (.int .i64 m) = (f m).isSome
theorem payD.kept {w w' : World} {b N : Nat} {f : Int → Option Int} {row : Option Nat} (h : payD w b N f) (hg : w.grownBy w' row) (hne : some b ≠ row) : payD w' b N f := by
  obtain ⟨D, h1, h2⟩ := h
  exact ⟨D, h1.kept hg hne, h2⟩
theorem payD.below {w w' : World} {b N : Nat} {f : Int → Option Int} (h : payD w b N f) (hb : Below w.heap.size w w') : payD w' b N f := h.kept (grown_of_below hb none) (by simp)
theorem payD.alloc {w : World} {b N : Nat} {f : Int → Option Int} (h : payD w b N f) (o : Obj) : payD (w.alloc o) b N f := h.below ((Below.refl _ _).alloc (Nat.le_refl _) _)
theorem payD.lt {w : World} {b N : Nat} {f : Int → Option Int} (h : payD w b N f) : b < w.heap.size := by obtain ⟨D, h1, _⟩ := h; exact h1.lt
theorem payD.same {w : World} {b N : Nat} {f f' : Int → Option Int} (h : payD w b N f) (hf : ∀ m, f m = f' m) : payD w b N f' := by
  obtain ⟨D, h1, h2⟩ := h
  exact ⟨D, h1, fun m => by rw [← hf m]; exact h2 m⟩
theorem payD_made (w : World) : payD (w.alloc (.map #[] 0)) w.heap.size 0 (fun _ => none) := ⟨_, World.ownsMap_made _ _ _ _, fun _ => ⟨rfl, rfl⟩⟩
theorem payD.mono {w : World} {b N N' : Nat} {f : Int → Option Int} (h : payD w b N f) (hN : N ≤ N') : payD w b N' f := by
  obtain ⟨D, h1, h2⟩ := h
  exact ⟨D, h1.mono hN, h2⟩
/-- A look-up with 'ok'. -/
theorem wpList_lookup_pay (w : World) {ops : Array Oper} {rest : List Oper} {o : Oper} {a : Act} {Q : Exit → Act → World → Prop} (hg : o.guard = none) (mm x : Operand) (hop : o.op = Op.lookup 82 mm x true) (b N : Nat) (f : Int → Option Int)
    (hm : a.eval mm = .map (some b)) (hD : payD w b N f) (m : Int) (hx : a.eval x = .int .i64 m) (h1 : -9223372036854775808 ≤ m) (h2 : m ≤ 9223372036854775807) (r : Option Int) (hr : f m = r)
    (h : wpList Try.prog ops Q rest (a.put o.dst (.tuple #[.int .i64 (r.getD 0), .bool r.isSome])) w) : wpList Try.prog ops Q (o :: rest) a w := by
  obtain ⟨D, hown, hat⟩ := hD
  subst hr
  refine wpList_lookup_own_ok_int w hg mm x 82 hop 3 3 .i64 intLaw Try.underlying82 Try.underlying3 (intZero _) b N D hm hown _ _ hx (keyOf_int_mk Try.underlying3 (wf64 ⟨h1, h2⟩)) ?_
  intro c hc _
  obtain ⟨k1, k2⟩ := hat m
  rw [k1] at hc
  injection hc with hc
  injection hc with hc1 hc2
  rw [k2, ← hc2]
  exact h
/-- A store. -/
theorem wpList_store_pay (w : World) {ops : Array Oper} {rest : List Oper} {o : Oper} {a : Act} {Q : Exit → Act → World → Prop} (hg : o.guard = none) (mm x y : Operand) (hop : o.op = Op.mapUpdate 82 mm x y) (b N : Nat) (f : Int → Option Int)
    (hm : a.eval mm = .map (some b)) (hD : payD w b N f) (hN : N < maxLen) (m v : Int) (hx : a.eval x = .int .i64 m) (hy : a.eval y = .int .i64 v) (h1 : -9223372036854775808 ≤ m) (h2 : m ≤ 9223372036854775807) (h3 : -9223372036854775808 ≤ v) (h4 : v ≤ 9223372036854775807)
    (h : ∀ w1, payD w1 b (N + 1) (fun j => if j = m then some v else f j) → w.grownBy w1 (some b) → wpList Try.prog ops Q rest (a.put o.dst undef) w1) : wpList Try.prog ops Q (o :: rest) a w := by
  obtain ⟨D, hown, hat⟩ := hD
  have hk : WideAt.IsKeyLit (.int .i64 m) := by first | exact trivial | simp [WideAt.IsKeyLit]
  refine wpList_mapUpdate_own w hg mm x y 82 hop 3 3 intLaw Try.underlying82 _ b N D hm hown hN _ _ _ hx hy (keyOf_int_mk Try.underlying3 (wf64 ⟨h1, h2⟩)) _ [] (plainElem_int Try.underlying3 (wf64 ⟨h3, h4⟩)) ?_
  intro w1 hown1 hgrow1
  refine h w1 ⟨_, hown1, fun j => ?_⟩ hgrow1
  by_cases e : j = m
  · subst e
    dsimp only
    rw [if_pos rfl]
    exact ⟨atKey_put_same hown.isMap hk _ _, has_put_same hown.isMap hk _⟩
  · have hne : (Lit.int .i64 j) ≠ .int .i64 m := by intro e2; injection e2 with _ e2; exact e e2
    dsimp only
    rw [if_neg e, atKey_put_other hne, has_put_other hne]
    exact hat j
set_option maxHeartbeats 1600000 in
theorem iPayOf (w : World) (A : Option Addr) (n c : Nat) (L : Nat → Fa) (known : Int) (h : RdFa w w.heap.size A n L) (hok : stOk n L = true) :
    Calls Try.prog 47 #[.agg #[.slice A n c], .int .i64 known] w fun e w' => ∃ b : Nat, e = .returned (.map (some b)) ∧ payD w' b 3600 (fun m => if 0 ≤ m ∧ m < 3600 then payF L n known m else none) ∧ Below w.heap.size w w' := by
  have hmm := @run_makeMap Try.prog
  have hbb : Below w.heap.size w ((w.alloc (.cells #[.slice A n c] 26)).alloc (.map #[] 0)) := (by (repeat (first | (with_reducible exact Below.refl _ _) | (with_reducible assumption) | (with_reducible refine Below.drew ?_) | (with_reducible refine below_drewN ?_ _) | ((with_reducible refine Below.setCell ?_ ?_ _); rotate_left; focus (first | (simp; done) | omega | (simp; omega))) | ((with_reducible refine Below.alloc ?_ ?_ _); rotate_left; focus (first | exact Nat.le_refl _ | omega | (simp; done) | (simp; omega))))))
  have hmade := payD_made (w.alloc (.cells #[.slice A n c] 26))
  go_enter Try.func47, Try.ntmps47
  go_wp2_with fail
  go_loopw [10] (fun i wr => ∃ k : Nat, k ≤ 3600 ∧ i = .int .i64 k ∧ payD wr (w.heap.size + 1) k (fun m => if 0 ≤ m ∧ m < (k : Int) then payF L n known m else none) ∧ wr.cell? ⟨w.heap.size, 0, none⟩ = some (.slice A n c) ∧ w.heap.size + 1 < wr.heap.size ∧ Below w.heap.size w wr) (fun i _ => 3600 - (intOf i).toNat)
  case atStart =>
    refine ⟨0, by omega, rfl, ?_, by simp [go_sem], by simp, hbb⟩
    have h1 := hmade.same (f' := fun m => if 0 ≤ m ∧ m < ((0 : Nat) : Int) then payF L n known m else none) (fun m => by rw [if_neg (by omega)])
    simpa using h1
  case round =>
    obtain ⟨k, hk, rfl, hD, hbox, hzb, hbr⟩ := hrel
    clear hmm hmade hbb
    have hs1 := hbr.size
    by_cases hlt : (k : Int) < 3600
    · have VA := iValueAt wr A n c L 1 k known ((h.below hbr).more hs1)
      obtain ⟨R, hR⟩ : ∃ R, R = valFrom L 1 (k : Int) known n := ⟨_, rfl⟩
      have hRb : ∀ v, R = some v → -1000000000 ≤ v ∧ v ≤ 1000000000 := fun v hv => payF_bd hok known k v (by rw [payF, ← hR, hv])
      rw [← hR] at VA
      have HR := Lib.hid hR
      clear hR
      cases R with
      | none =>
        go_wp2_with fail
        refine VA.mono ?_
        rintro e w5 ⟨rfl, hb5⟩
        clear VA hRb
        obtain ⟨hc5, -⟩ := keepc hb5
        have hs5 := hb5.size
        have c5 : w5.cell? ⟨w.heap.size, 0, none⟩ = some (.slice A n c) := by rw [hc5 _ _ (by omega)]; exact hbox
        have D5 := (hD.below hb5).mono (Nat.le_succ k)
        have hB5 := hbr.trans (hb5.mono hs1)
        have hz5 : w.heap.size + 1 < w5.heap.size := by omega
        clear hc5 hb5 hD
        go_wp2_with fail
        go_roundw
        case rel =>
          refine ⟨k + 1, by omega, by go_num, D5.same (fun m => ?_), c5, hz5, hB5⟩
          by_cases e : m = (k : Int)
          · subst e
            rw [if_neg (by omega), if_pos (by omega), payF, ← HR.out]
          · by_cases e2 : 0 ≤ m ∧ m < (k : Int)
            · rw [if_pos e2, if_pos (by omega)]
            · rw [if_neg e2, if_neg (by omega)]
        case measure => simp [intOf]; omega
      | some v =>
        have hv := hRb v rfl
        go_wp2_with fail
        refine VA.mono ?_
        rintro e w5 ⟨rfl, hb5⟩
        clear VA hRb
        obtain ⟨hc5, -⟩ := keepc hb5
        have hs5 := hb5.size
        have c5 : w5.cell? ⟨w.heap.size, 0, none⟩ = some (.slice A n c) := by rw [hc5 _ _ (by omega)]; exact hbox
        have D5 := hD.below hb5
        have hB5 := hbr.trans (hb5.mono hs1)
        have hz5 : w.heap.size + 1 < w5.heap.size := by omega
        clear hc5 hb5 hD
        go_wp2_with (at_mapUpdate; refine wpList_store_pay _ rfl _ _ _ rfl (w.heap.size + 1) k _ rfl D5 (by unfold maxLen; omega) (k : Int) v rfl rfl (by omega) (by omega) (by omega) (by omega) ?_; intro w6 D6 hg6)
        have hs6 := hg6.size
        have c6 : w6.cell? ⟨w.heap.size, 0, none⟩ = some (.slice A n c) := hg6.cell c5 (by simp)
        have hB6 := hB5.grown hg6 hB5.size (fun q hq => by injection hq; omega)
        go_roundw
        case rel =>
          refine ⟨k + 1, by omega, by go_num, D6.same (fun m => ?_), c6, by omega, hB6⟩
          by_cases e : m = (k : Int)
          · subst e
            rw [if_pos rfl, if_pos (by omega), payF, ← HR.out]
          · by_cases e2 : 0 ≤ m ∧ m < (k : Int)
            · rw [if_neg e, if_pos e2, if_pos (by omega)]
            · rw [if_neg e, if_neg e2, if_neg (by omega)]
        case measure => simp [intOf]; omega
    · obtain rfl : k = 3600 := by omega
      go_wp2_with fail
      go_ret
      exact ⟨_, rfl, hD, hbr⟩
set_option maxHeartbeats 1600000 in
theorem iAverageOf (w : World) (b N : Nat) (f g : Int → Option Int) (x z : Int) (hD : payD w b N g) (hg : ∀ m, 0 ≤ m → m < 3600 → g m = f m) (hf : ∀ m v, f m = some v → -1000000000 ≤ v ∧ v ≤ 1000000000) (h0 : 0 ≤ x) (hx : x ≤ 3600) (hz : z ≤ 3600) :
    Calls Try.prog 46 #[.map (some b), .int .i64 x, .int .i64 z] w fun e w' => e = .returned (vOpt (avgL f x z)) ∧ Below w.heap.size w w' := by
  have HG := Lib.hid hg
  have HF := Lib.hid hf
  clear hg hf
  obtain ⟨V, hV⟩ : ∃ V, V = avgL f x z := ⟨_, rfl⟩
  rw [← hV]
  have HV0 := Lib.hid hV
  clear hV
  obtain ⟨N1, hN1⟩ : ∃ N1, N1 = (z - x).toNat := ⟨_, rfl⟩
  have hN2 : N1 ≤ 3600 := by omega
  have hD1 := hD.alloc (.cells #[.int .i64 0, .int .i64 0] 48)
  have hb1 : Below w.heap.size w (w.alloc (.cells #[.int .i64 0, .int .i64 0] 48)) := (Below.refl _ _).alloc (Nat.le_refl _) _
  go_enter Try.func46, Try.ntmps46
  go_wp2_with fail
  go_loop [8, 9, 10] (fun s q i => ∃ k : Nat, k ≤ N1 ∧ i = .int .i64 (x + (k : Int)) ∧ s = .int .i64 (avS f x k) ∧ q = .int .i64 (avC f x k)) (fun _ _ i => (z - intOf i).toNat)
  case atStart => exact ⟨0, by omega, by simp, rfl, rfl⟩
  case round =>
    obtain ⟨k, hk, rfl, rfl, rfl⟩ := hrel
    have hS := avS_bd HF.out x k
    have hC := avC_bd f x k
    by_cases hlt : x + (k : Int) < z
    · obtain ⟨m, hm⟩ : ∃ m : Int, m = x + (k : Int) := ⟨_, rfl⟩
      have hst : avS f x (k + 1) = avS f x k + (f m).getD 0 := by rw [avS, hm]
      have hct : avC f x (k + 1) = avC f x k + if (f m).isSome = true then 1 else 0 := by rw [avC, hm]
      have hgm := HG.out m (by omega) (by omega)
      have hbd : ∀ v, f m = some v → -1000000000 ≤ v ∧ v ≤ 1000000000 := HF.out m
      rw [← hm] at hlt ⊢
      have hm0 : -9223372036854775808 ≤ m := by omega
      have hm1 : m ≤ 3599 := by omega
      have hm2 : m ≤ 9223372036854775807 := by omega
      have HM := Lib.hid (show m + 1 = x + ((k + 1 : Nat) : Int) by omega)
      have hk2 : k + 1 ≤ N1 := by omega
      clear hm
      obtain ⟨S, hSe⟩ : ∃ S, S = avS f x k := ⟨_, rfl⟩
      obtain ⟨C, hCe⟩ : ∃ C, C = avC f x k := ⟨_, rfl⟩
      rw [← hSe] at hst hS ⊢
      rw [← hCe] at hct hC ⊢
      clear hSe hCe
      obtain ⟨R, hR⟩ : ∃ R, R = f m := ⟨_, rfl⟩
      rw [← hR] at hst hct hgm hbd
      clear hR
      have w2 : IntKind.i64.wrap (C + 1) = C + 1 := IntWalk.i64_in _ ⟨by omega, by omega⟩
      cases R with
      | none =>
        have HST := Lib.hid hst
        have HCT := Lib.hid hct
        clear hst hct hbd
        go_wp2_with (at_lookup; refine wpList_lookup_pay _ rfl _ _ rfl b N g rfl hD1 m rfl hm0 hm2 none hgm ?_)
        go_round
        case rel => exact ⟨k + 1, hk2, by rw [← HM.out], by rw [HST.out]; simp, by rw [HCT.out]; simp⟩
        case measure => simp [intOf]; omega
      | some v =>
        have hv := hbd v rfl
        have w1 : IntKind.i64.wrap (S + v) = S + v := IntWalk.i64_in _ ⟨by omega, by omega⟩
        have HST := Lib.hid hst
        have HCT := Lib.hid hct
        clear hst hct hbd
        go_wp2_with (at_lookup; refine wpList_lookup_pay _ rfl _ _ rfl b N g rfl hD1 m rfl hm0 hm2 (some v) hgm ?_)
        go_round
        case rel => exact ⟨k + 1, hk2, by rw [← HM.out], by rw [HST.out]; simp, by rw [HCT.out]; simp⟩
        case measure => simp [intOf]; omega
    · obtain rfl : k = N1 := by omega
      have hv : V = if avC f x k = 0 then none else redL (avS f x k) (avC f x k) := by rw [HV0.out, avgL, ← hN1]
      obtain ⟨S, hSe⟩ : ∃ S, S = avS f x k := ⟨_, rfl⟩
      obtain ⟨C, hCe⟩ : ∃ C, C = avC f x k := ⟨_, rfl⟩
      rw [← hSe] at hv hS ⊢
      rw [← hCe] at hv hC ⊢
      clear hSe hCe HG HF hD hD1 HV0 hN1
      obtain ⟨y, hy⟩ : ∃ y : Int, y = x + (k : Int) := ⟨_, rfl⟩
      rw [← hy] at hlt ⊢
      clear hy
      by_cases hC0 : C = 0
      · rw [if_pos hC0] at hv
        subst hv hC0
        go_wp2_with fail
        refine bodyPost_ret (v := vOpt none) (by simp [results, Try.results46, go_sem, oN_none, oD_none, oB_none]) rfl ⟨rfl, (by (repeat (first | (with_reducible exact Below.refl _ _) | (with_reducible assumption) | (with_reducible refine Below.drew ?_) | (with_reducible refine below_drewN ?_ _) | ((with_reducible refine Below.setCell ?_ ?_ _); rotate_left; focus (first | (simp; done) | omega | (simp; omega))) | ((with_reducible refine Below.alloc ?_ ?_ _); rotate_left; focus (first | exact Nat.le_refl _ | omega | (simp; done) | (simp; omega))))))⟩
      · rw [if_neg hC0] at hv
        have HV := Lib.hid hv
        clear hv
        have hc2 : (C == 0) = false := by simpa using hC0
        go_wp2_with fail
        refine (iReduced S C _ ⟨by omega, by omega⟩ ⟨by omega, by omega⟩ hC0).mono ?_
        rw [← HV.out]
        rintro e w1 ⟨rfl, hb2⟩
        obtain ⟨hc1, hf1⟩ := keepc hb2
        have hz1a : w.heap.size < w1.heap.size := (by have := hb2.size; first | omega | (simp at this; omega))
        have hB1 : Below w.heap.size w w1 := hb1.trans (hb2.mono (by simp))
        have c0 : w1.cell? ⟨w.heap.size, 0, none⟩ = some (.int .i64 0) := by rw [hc1 _ _ (by simp)]; simp [go_sem]
        have c1 : w1.cell? ⟨w.heap.size, 1, none⟩ = some (.int .i64 0) := by rw [hc1 _ _ (by simp)]; simp [go_sem]
        have f0 : w1.frozen? ⟨w.heap.size, 0, none⟩ = false := by rw [hf1 _ _ (by simp)]; simp [go_sem]
        have f1 : w1.frozen? ⟨w.heap.size, 1, none⟩ = false := by rw [hf1 _ _ (by simp)]; simp [go_sem]
        clear hc1 hf1 hb2 hb1
        go_wp2_with fail
        refine bodyPost_ret (v := vOpt V) (by simp [results, Try.results46, go_sem, c0, c1]) rfl ⟨rfl, (by (repeat (first | (with_reducible exact Below.refl _ _) | (with_reducible assumption) | (with_reducible refine Below.drew ?_) | (with_reducible refine below_drewN ?_ _) | ((with_reducible refine Below.setCell ?_ ?_ _); rotate_left; focus (first | (simp; done) | omega | (simp; omega))) | ((with_reducible refine Below.alloc ?_ ?_ _); rotate_left; focus (first | exact Nat.le_refl _ | omega | (simp; done) | (simp; omega))))))⟩

set_option maxHeartbeats 3200000 in
theorem iAveragePay (w : World) (A : Option Addr) (n c : Nat) (L : Nat → Fa) (a b known : Int) (h : RdFa w w.heap.size A n L) :
    Calls Try.prog 21 #[.agg #[.slice A n c], .int .i64 a, .int .i64 b, .int .i64 known] w fun e w' => e = .returned (vOpt (payAvgL n L a b known)) ∧ Below w.heap.size w w' := by
  have hbb : Below w.heap.size w ((w.alloc (.cells #[.slice A n c] 26)).alloc (.cells #[.int .i64 0, .int .i64 0] 48)) := (by (repeat (first | (with_reducible exact Below.refl _ _) | (with_reducible assumption) | (with_reducible refine Below.drew ?_) | (with_reducible refine below_drewN ?_ _) | ((with_reducible refine Below.setCell ?_ ?_ _); rotate_left; focus (first | (simp; done) | omega | (simp; omega))) | ((with_reducible refine Below.alloc ?_ ?_ _); rotate_left; focus (first | exact Nat.le_refl _ | omega | (simp; done) | (simp; omega))))))
  obtain ⟨v, hv⟩ : ∃ v, v = payAvgL n L a b known := ⟨_, rfl⟩
  rw [← hv]
  cases hok : stOk n L
  · have e0 : v = none := by rw [hv, payAvgL, if_neg (by simp [hok])]
    rw [e0]
    clear e0 hv v
    go_enter Try.func21, Try.ntmps21
    go_wp2_with fail
    refine (iStoreOk _ A n c L ((h.below hbb).more (by simp; omega))).mono ?_
    rintro e w1 ⟨rfl, hb1⟩
    rw [hok]
    obtain ⟨hc1, hf1⟩ := keepc hb1
    have b0 : w1.cell? ⟨w.heap.size, 0, none⟩ = some (.slice A n c) := by rw [hc1 _ _ (by simp; omega)]; simp [go_sem]
    have hz1 : w.heap.size + 1 < w1.heap.size := by have := hb1.size; simp at this; omega
    have hz1a : w.heap.size < w1.heap.size := by omega
    have hB1 := hbb.trans (hb1.mono (by simp; omega))
    have c0 : w1.cell? ⟨w.heap.size + 1, 0, none⟩ = some (.int .i64 0) := by rw [hc1 _ _ (by first | omega | (simp; done) | (simp; omega))] <;> simp [go_sem, *]
    have f0 : w1.frozen? ⟨w.heap.size + 1, 0, none⟩ = false := by rw [hf1 _ _ (by first | omega | (simp; done) | (simp; omega))] <;> simp [go_sem, *]
    have c1 : w1.cell? ⟨w.heap.size + 1, 1, none⟩ = some (.int .i64 0) := by rw [hc1 _ _ (by first | omega | (simp; done) | (simp; omega))] <;> simp [go_sem, *]
    have f1 : w1.frozen? ⟨w.heap.size + 1, 1, none⟩ = false := by rw [hf1 _ _ (by first | omega | (simp; done) | (simp; omega))] <;> simp [go_sem, *]
    clear hc1 hf1 hb1
    go_wp2_with (go_at_call 37; refine (isEnd_any _ _).mono ?_; rintro e w' ⟨rfl, rfl⟩)
    refine bodyPost_ret (v := vOpt none) ?_ rfl ⟨rfl, ?_⟩
    · simp [results, Try.results21, go_sem, oN_none, oD_none, oB_none, c0, c1]
    · (repeat (first | (with_reducible exact Below.refl _ _) | (with_reducible assumption) | (with_reducible refine Below.drew ?_) | (with_reducible refine below_drewN ?_ _) | ((with_reducible refine Below.setCell ?_ ?_ _); rotate_left; focus (first | (simp; done) | omega | (simp; omega))) | ((with_reducible refine Below.alloc ?_ ?_ _); rotate_left; focus (first | exact Nat.le_refl _ | omega | (simp; done) | (simp; omega)))))
  · cases h1 : endB a
    · have e0 : v = none := by rw [hv, payAvgL, if_neg (by simp [hok, h1])]
      rw [e0]
      clear e0 hv v
      go_enter Try.func21, Try.ntmps21
      go_wp2_with fail
      refine (iStoreOk _ A n c L ((h.below hbb).more (by simp; omega))).mono ?_
      rintro e w1 ⟨rfl, hb1⟩
      rw [hok]
      obtain ⟨hc1, hf1⟩ := keepc hb1
      have b0 : w1.cell? ⟨w.heap.size, 0, none⟩ = some (.slice A n c) := by rw [hc1 _ _ (by simp; omega)]; simp [go_sem]
      have hz1 : w.heap.size + 1 < w1.heap.size := by have := hb1.size; simp at this; omega
      have hz1a : w.heap.size < w1.heap.size := by omega
      have hB1 := hbb.trans (hb1.mono (by simp; omega))
      have c0 : w1.cell? ⟨w.heap.size + 1, 0, none⟩ = some (.int .i64 0) := by rw [hc1 _ _ (by first | omega | (simp; done) | (simp; omega))] <;> simp [go_sem, *]
      have f0 : w1.frozen? ⟨w.heap.size + 1, 0, none⟩ = false := by rw [hf1 _ _ (by first | omega | (simp; done) | (simp; omega))] <;> simp [go_sem, *]
      have c1 : w1.cell? ⟨w.heap.size + 1, 1, none⟩ = some (.int .i64 0) := by rw [hc1 _ _ (by first | omega | (simp; done) | (simp; omega))] <;> simp [go_sem, *]
      have f1 : w1.frozen? ⟨w.heap.size + 1, 1, none⟩ = false := by rw [hf1 _ _ (by first | omega | (simp; done) | (simp; omega))] <;> simp [go_sem, *]
      clear hc1 hf1 hb1
      go_wp2_with (go_at_call 37; refine (isEnd_any _ _).mono ?_; rintro e w' ⟨rfl, rfl⟩)
      refine bodyPost_ret (v := vOpt none) ?_ rfl ⟨rfl, ?_⟩
      · simp [results, Try.results21, go_sem, oN_none, oD_none, oB_none, c0, c1]
      · (repeat (first | (with_reducible exact Below.refl _ _) | (with_reducible assumption) | (with_reducible refine Below.drew ?_) | (with_reducible refine below_drewN ?_ _) | ((with_reducible refine Below.setCell ?_ ?_ _); rotate_left; focus (first | (simp; done) | omega | (simp; omega))) | ((with_reducible refine Below.alloc ?_ ?_ _); rotate_left; focus (first | exact Nat.le_refl _ | omega | (simp; done) | (simp; omega)))))
    · cases h2 : endB b
      · have e0 : v = none := by rw [hv, payAvgL, if_neg (by simp [hok, h1, h2])]
        rw [e0]
        clear e0 hv v
        go_enter Try.func21, Try.ntmps21
        go_wp2_with fail
        refine (iStoreOk _ A n c L ((h.below hbb).more (by simp; omega))).mono ?_
        rintro e w1 ⟨rfl, hb1⟩
        rw [hok]
        obtain ⟨hc1, hf1⟩ := keepc hb1
        have b0 : w1.cell? ⟨w.heap.size, 0, none⟩ = some (.slice A n c) := by rw [hc1 _ _ (by simp; omega)]; simp [go_sem]
        have hz1 : w.heap.size + 1 < w1.heap.size := by have := hb1.size; simp at this; omega
        have hz1a : w.heap.size < w1.heap.size := by omega
        have hB1 := hbb.trans (hb1.mono (by simp; omega))
        have c0 : w1.cell? ⟨w.heap.size + 1, 0, none⟩ = some (.int .i64 0) := by rw [hc1 _ _ (by first | omega | (simp; done) | (simp; omega))] <;> simp [go_sem, *]
        have f0 : w1.frozen? ⟨w.heap.size + 1, 0, none⟩ = false := by rw [hf1 _ _ (by first | omega | (simp; done) | (simp; omega))] <;> simp [go_sem, *]
        have c1 : w1.cell? ⟨w.heap.size + 1, 1, none⟩ = some (.int .i64 0) := by rw [hc1 _ _ (by first | omega | (simp; done) | (simp; omega))] <;> simp [go_sem, *]
        have f1 : w1.frozen? ⟨w.heap.size + 1, 1, none⟩ = false := by rw [hf1 _ _ (by first | omega | (simp; done) | (simp; omega))] <;> simp [go_sem, *]
        clear hc1 hf1 hb1
        go_wp2_with (go_at_call 37; refine (isEnd_any _ _).mono ?_; rintro e w' ⟨rfl, rfl⟩)
        refine bodyPost_ret (v := vOpt none) ?_ rfl ⟨rfl, ?_⟩
        · simp [results, Try.results21, go_sem, oN_none, oD_none, oB_none, c0, c1]
        · (repeat (first | (with_reducible exact Below.refl _ _) | (with_reducible assumption) | (with_reducible refine Below.drew ?_) | (with_reducible refine below_drewN ?_ _) | ((with_reducible refine Below.setCell ?_ ?_ _); rotate_left; focus (first | (simp; done) | omega | (simp; omega))) | ((with_reducible refine Below.alloc ?_ ?_ _); rotate_left; focus (first | exact Nat.le_refl _ | omega | (simp; done) | (simp; omega)))))
      · have e0 : v = avgL (payF L n known) a b := by rw [hv, payAvgL, if_pos (by simp [hok, h1, h2])]
        clear hv
        have ha := inB_iff.1 h1
        have hb := inB_iff.1 h2
        have HE := Lib.hid e0
        clear e0
        have HOK := Lib.hid hok
        go_enter Try.func21, Try.ntmps21
        go_wp2_with fail
        refine (iStoreOk _ A n c L ((h.below hbb).more (by simp; omega))).mono ?_
        rintro e w1 ⟨rfl, hb1⟩
        rw [hok]
        obtain ⟨hc1, hf1⟩ := keepc hb1
        have b0 : w1.cell? ⟨w.heap.size, 0, none⟩ = some (.slice A n c) := by rw [hc1 _ _ (by simp; omega)]; simp [go_sem]
        have hz1 : w.heap.size + 1 < w1.heap.size := by have := hb1.size; simp at this; omega
        have hz1a : w.heap.size < w1.heap.size := by omega
        have hB1 := hbb.trans (hb1.mono (by simp; omega))
        have c0 : w1.cell? ⟨w.heap.size + 1, 0, none⟩ = some (.int .i64 0) := by rw [hc1 _ _ (by first | omega | (simp; done) | (simp; omega))] <;> simp [go_sem, *]
        have f0 : w1.frozen? ⟨w.heap.size + 1, 0, none⟩ = false := by rw [hf1 _ _ (by first | omega | (simp; done) | (simp; omega))] <;> simp [go_sem, *]
        have c1 : w1.cell? ⟨w.heap.size + 1, 1, none⟩ = some (.int .i64 0) := by rw [hc1 _ _ (by first | omega | (simp; done) | (simp; omega))] <;> simp [go_sem, *]
        have f1 : w1.frozen? ⟨w.heap.size + 1, 1, none⟩ = false := by rw [hf1 _ _ (by first | omega | (simp; done) | (simp; omega))] <;> simp [go_sem, *]
        clear hc1 hf1 hb1
        go_wp2_with (go_at_call 37; refine (isEnd_any _ _).mono ?_; rintro e w' ⟨rfl, rfl⟩)
        refine (iPayOf w1 A n c L known ((h.below hB1).more hB1.size) HOK.out).mono ?_
        rintro e w2 ⟨bm, rfl, hD, hb2⟩
        have hl2 := hD.lt
        obtain ⟨hc2, hf2⟩ := keepc hb2
        have hs2 := hb2.size
        replace c0 : w2.cell? ⟨w.heap.size + 1, 0, none⟩ = some (.int .i64 0) := by rw [hc2 _ _ (by omega)]; exact c0
        replace c1 : w2.cell? ⟨w.heap.size + 1, 1, none⟩ = some (.int .i64 0) := by rw [hc2 _ _ (by omega)]; exact c1
        replace f0 : w2.frozen? ⟨w.heap.size + 1, 0, none⟩ = false := by rw [hf2 _ _ (by omega)]; exact f0
        replace f1 : w2.frozen? ⟨w.heap.size + 1, 1, none⟩ = false := by rw [hf2 _ _ (by omega)]; exact f1
        have hB2 := hB1.trans (hb2.mono hB1.size)
        have hz2 : w.heap.size + 1 < w2.heap.size := by omega
        clear hc2 hf2 hb2 b0 hz1 hz1a
        go_wp2_with fail
        refine (iAverageOf w2 bm 3600 (payF L n known) _ a b hD (fun m k1 k2 => if_pos ⟨k1, k2⟩) (payF_bd HOK.out known) ha.1 ha.2 hb.2).mono ?_
        rw [← HE.out]
        rintro e w3 ⟨rfl, hb3⟩
        obtain ⟨hc3, hf3⟩ := keepc hb3
        have hs3 := hb3.size
        replace c0 : w3.cell? ⟨w.heap.size + 1, 0, none⟩ = some (.int .i64 0) := by rw [hc3 _ _ (by omega)]; exact c0
        replace c1 : w3.cell? ⟨w.heap.size + 1, 1, none⟩ = some (.int .i64 0) := by rw [hc3 _ _ (by omega)]; exact c1
        replace f0 : w3.frozen? ⟨w.heap.size + 1, 0, none⟩ = false := by rw [hf3 _ _ (by omega)]; exact f0
        replace f1 : w3.frozen? ⟨w.heap.size + 1, 1, none⟩ = false := by rw [hf3 _ _ (by omega)]; exact f1
        have hB3 := hB2.trans (hb3.mono hB2.size)
        have hz3 : w.heap.size + 1 < w3.heap.size := by omega
        clear hc3 hf3 hb3 hD
        go_wp2_with fail
        refine bodyPost_ret (v := vOpt v) ?_ rfl ⟨rfl, ?_⟩
        · simp [results, Try.results21, go_sem, c0, c1]
        · (repeat (first | (with_reducible exact Below.refl _ _) | (with_reducible assumption) | (with_reducible refine Below.drew ?_) | (with_reducible refine below_drewN ?_ _) | ((with_reducible refine Below.setCell ?_ ?_ _); rotate_left; focus (first | (simp; done) | omega | (simp; omega))) | ((with_reducible refine Below.alloc ?_ ?_ _); rotate_left; focus (first | exact Nat.le_refl _ | omega | (simp; done) | (simp; omega)))))

set_option maxRecDepth 4000 in
set_option maxHeartbeats 3200000 in
theorem sL12Average (w : World) (A : Option Addr) (n c : Nat) (L : Nat → Fa) (a b known : Int) (h : RdFa w w.heap.size A n L) (hok : stOk n L = true) (h0 : 0 ≤ a) (ha : a ≤ 3600) (hz : b ≤ 3600) :
    Calls Try.prog 50 #[.agg #[.slice A n c], .int .i64 a, .int .i64 b, .int .i64 known] w fun e w' => e = .returned (vOpt (avgL (payF L n known) a b)) ∧ Below w.heap.size w w' := by
  have HOK := Lib.hid hok
  clear hok
  have hf := payF_bd HOK.out known
  obtain ⟨N1, hN1⟩ : ∃ N1, N1 = (b - a).toNat := ⟨_, rfl⟩
  have hN2 : N1 ≤ 3600 := by omega
  have hbb : Below w.heap.size w ((w.alloc (.cells #[.slice A n c] 26)).alloc (.cells #[.int .i64 0, .int .i64 0] 48)) := (by (repeat (first | (with_reducible exact Below.refl _ _) | (with_reducible assumption) | (with_reducible refine Below.drew ?_) | (with_reducible refine below_drewN ?_ _) | ((with_reducible refine Below.setCell ?_ ?_ _); rotate_left; focus (first | (simp; done) | omega | (simp; omega))) | ((with_reducible refine Below.alloc ?_ ?_ _); rotate_left; focus (first | exact Nat.le_refl _ | omega | (simp; done) | (simp; omega))))))
  have HF := Lib.hid hf
  clear hf
  obtain ⟨V, hV⟩ : ∃ V, V = avgL (payF L n known) a b := ⟨_, rfl⟩
  rw [← hV]
  have HV0 := Lib.hid hV
  clear hV
  go_enter Try.func50, Try.ntmps50
  go_wp2_with fail
  go_loopw [10, 11, 12] (fun s q i wr => ∃ k : Nat, k ≤ N1 ∧ i = .int .i64 (a + (k : Int)) ∧ s = .int .i64 (avS (payF L n known) a k) ∧ q = .int .i64 (avC (payF L n known) a k) ∧ wr.cell? ⟨w.heap.size, 0, none⟩ = some (.slice A n c) ∧ wr.cell? ⟨w.heap.size + 1, 0, none⟩ = some (.int .i64 0) ∧ wr.cell? ⟨w.heap.size + 1, 1, none⟩ = some (.int .i64 0) ∧ wr.frozen? ⟨w.heap.size + 1, 0, none⟩ = false ∧ wr.frozen? ⟨w.heap.size + 1, 1, none⟩ = false ∧ w.heap.size + 1 < wr.heap.size ∧ Below w.heap.size w wr) (fun _ _ i _ => (b - intOf i).toNat)
  case atStart => exact ⟨0, by omega, by simp, rfl, rfl, by simp [go_sem], by simp [go_sem], by simp [go_sem], by simp [go_sem], by simp [go_sem], by simp, hbb⟩
  case round =>
    obtain ⟨k, hk, rfl, rfl, rfl, b0, c0, c1, f0, f1, hz, hbr⟩ := hrel
    have hs1 := hbr.size
    have hS := avS_bd HF.out a k
    have hC := avC_bd (payF L n known) a k
    by_cases hlt : a + (k : Int) < b
    · obtain ⟨m, hm⟩ : ∃ m : Int, m = a + (k : Int) := ⟨_, rfl⟩
      have hst : avS (payF L n known) a (k + 1) = avS (payF L n known) a k + (payF L n known m).getD 0 := by rw [avS, hm]
      have hct : avC (payF L n known) a (k + 1) = avC (payF L n known) a k + if (payF L n known m).isSome = true then 1 else 0 := by rw [avC, hm]
      have hbd : ∀ v, payF L n known m = some v → -1000000000 ≤ v ∧ v ≤ 1000000000 := HF.out m
      rw [← hm] at hlt ⊢
      have hm1 : m ≤ 3599 := by omega
      have hm0 : 0 ≤ m := by omega
      have HM := Lib.hid (show m + 1 = a + ((k + 1 : Nat) : Int) by omega)
      have hk2 : k + 1 ≤ N1 := by omega
      clear hm
      obtain ⟨S, hSe⟩ : ∃ S, S = avS (payF L n known) a k := ⟨_, rfl⟩
      obtain ⟨C, hCe⟩ : ∃ C, C = avC (payF L n known) a k := ⟨_, rfl⟩
      rw [← hSe] at hst hS ⊢
      rw [← hCe] at hct hC ⊢
      clear hSe hCe
      have VA := sValueAt wr A n c L 1 m known ((h.below hbr).more hs1)
      rw [payF] at hst hct hbd
      obtain ⟨R, hR⟩ : ∃ R, R = valFrom L 1 m known n := ⟨_, rfl⟩
      rw [← hR] at hst hct hbd VA
      clear hR
      have w2 : IntKind.i64.wrap (C + 1) = C + 1 := IntWalk.i64_in _ ⟨by omega, by omega⟩
      cases R with
      | none =>
        have HST := Lib.hid hst
        have HCT := Lib.hid hct
        clear hst hct hbd
        go_wp2_with fail
        refine VA.mono ?_
        rintro e w5 ⟨rfl, hb5⟩
        clear VA
        obtain ⟨hc5, hf5⟩ := keepc hb5
        have hs5 := hb5.size
        replace b0 : w5.cell? ⟨w.heap.size, 0, none⟩ = some (.slice A n c) := by rw [hc5 _ _ (by omega)]; exact b0
        replace c0 : w5.cell? ⟨w.heap.size + 1, 0, none⟩ = some (.int .i64 0) := by rw [hc5 _ _ (by omega)]; exact c0
        replace c1 : w5.cell? ⟨w.heap.size + 1, 1, none⟩ = some (.int .i64 0) := by rw [hc5 _ _ (by omega)]; exact c1
        replace f0 : w5.frozen? ⟨w.heap.size + 1, 0, none⟩ = false := by rw [hf5 _ _ (by omega)]; exact f0
        replace f1 : w5.frozen? ⟨w.heap.size + 1, 1, none⟩ = false := by rw [hf5 _ _ (by omega)]; exact f1
        have hB5 := hbr.trans (hb5.mono hs1)
        have hz5 : w.heap.size + 1 < w5.heap.size := by omega
        clear hc5 hf5 hb5
        go_wp2_with fail
        go_roundw
        case rel => exact ⟨k + 1, hk2, by rw [← HM.out], by rw [HST.out]; simp, by rw [HCT.out]; simp, b0, c0, c1, f0, f1, hz5, hB5⟩
        case measure => simp [intOf]; omega
      | some v =>
        have hv := hbd v rfl
        have w1 : IntKind.i64.wrap (S + v) = S + v := IntWalk.i64_in _ ⟨by omega, by omega⟩
        have HST := Lib.hid hst
        have HCT := Lib.hid hct
        clear hst hct hbd
        go_wp2_with fail
        refine VA.mono ?_
        rintro e w5 ⟨rfl, hb5⟩
        clear VA
        obtain ⟨hc5, hf5⟩ := keepc hb5
        have hs5 := hb5.size
        replace b0 : w5.cell? ⟨w.heap.size, 0, none⟩ = some (.slice A n c) := by rw [hc5 _ _ (by omega)]; exact b0
        replace c0 : w5.cell? ⟨w.heap.size + 1, 0, none⟩ = some (.int .i64 0) := by rw [hc5 _ _ (by omega)]; exact c0
        replace c1 : w5.cell? ⟨w.heap.size + 1, 1, none⟩ = some (.int .i64 0) := by rw [hc5 _ _ (by omega)]; exact c1
        replace f0 : w5.frozen? ⟨w.heap.size + 1, 0, none⟩ = false := by rw [hf5 _ _ (by omega)]; exact f0
        replace f1 : w5.frozen? ⟨w.heap.size + 1, 1, none⟩ = false := by rw [hf5 _ _ (by omega)]; exact f1
        have hB5 := hbr.trans (hb5.mono hs1)
        have hz5 : w.heap.size + 1 < w5.heap.size := by omega
        clear hc5 hf5 hb5
        go_wp2_with fail
        go_roundw
        case rel => exact ⟨k + 1, hk2, by rw [← HM.out], by rw [HST.out]; simp, by rw [HCT.out]; simp, b0, c0, c1, f0, f1, hz5, hB5⟩
        case measure => simp [intOf]; omega
    · obtain rfl : k = N1 := by omega
      have hv : V = if avC (payF L n known) a k = 0 then none else redL (avS (payF L n known) a k) (avC (payF L n known) a k) := by rw [HV0.out, avgL, ← hN1]
      obtain ⟨S, hSe⟩ : ∃ S, S = avS (payF L n known) a k := ⟨_, rfl⟩
      obtain ⟨C, hCe⟩ : ∃ C, C = avC (payF L n known) a k := ⟨_, rfl⟩
      rw [← hSe] at hv hS ⊢
      rw [← hCe] at hv hC ⊢
      clear hSe hCe HF HV0 hN1
      obtain ⟨y, hy⟩ : ∃ y : Int, y = a + (k : Int) := ⟨_, rfl⟩
      rw [← hy] at hlt ⊢
      clear hy
      by_cases hC0 : C = 0
      · rw [if_pos hC0] at hv
        subst hv hC0
        go_wp2_with fail
        refine bodyPost_ret (v := vOpt none) ?_ rfl ⟨rfl, ?_⟩
        · simp [results, Try.results50, go_sem, oN_none, oD_none, oB_none, c0, c1]
        · (repeat (first | (with_reducible exact Below.refl _ _) | (with_reducible assumption) | (with_reducible refine Below.drew ?_) | (with_reducible refine below_drewN ?_ _) | ((with_reducible refine Below.setCell ?_ ?_ _); rotate_left; focus (first | (simp; done) | omega | (simp; omega))) | ((with_reducible refine Below.alloc ?_ ?_ _); rotate_left; focus (first | exact Nat.le_refl _ | omega | (simp; done) | (simp; omega)))))
      · rw [if_neg hC0] at hv
        have HV := Lib.hid hv
        clear hv
        have hc2 : (C == 0) = false := by simpa using hC0
        go_wp2_with fail
        refine (sMake S C _ ⟨by omega, by omega⟩ ⟨by omega, by omega⟩ hC0).mono ?_
        rw [← HV.out]
        rintro e w1 ⟨rfl, hb2⟩
        obtain ⟨hc1, hf1⟩ := keepc hb2
        have hs2 := hb2.size
        replace c0 : w1.cell? ⟨w.heap.size + 1, 0, none⟩ = some (.int .i64 0) := by rw [hc1 _ _ (by omega)]; exact c0
        replace c1 : w1.cell? ⟨w.heap.size + 1, 1, none⟩ = some (.int .i64 0) := by rw [hc1 _ _ (by omega)]; exact c1
        replace f0 : w1.frozen? ⟨w.heap.size + 1, 0, none⟩ = false := by rw [hf1 _ _ (by omega)]; exact f0
        replace f1 : w1.frozen? ⟨w.heap.size + 1, 1, none⟩ = false := by rw [hf1 _ _ (by omega)]; exact f1
        have hB1 := hbr.trans (hb2.mono hs1)
        have hz1 : w.heap.size + 1 < w1.heap.size := by omega
        clear hc1 hf1 hb2 b0
        go_wp2_with fail
        refine bodyPost_ret (v := vOpt V) ?_ rfl ⟨rfl, ?_⟩
        · simp [results, Try.results50, go_sem, c0, c1]
        · (repeat (first | (with_reducible exact Below.refl _ _) | (with_reducible assumption) | (with_reducible refine Below.drew ?_) | (with_reducible refine below_drewN ?_ _) | ((with_reducible refine Below.setCell ?_ ?_ _); rotate_left; focus (first | (simp; done) | omega | (simp; omega))) | ((with_reducible refine Below.alloc ?_ ?_ _); rotate_left; focus (first | exact Nat.le_refl _ | omega | (simp; done) | (simp; omega)))))

set_option maxHeartbeats 3200000 in
theorem sAveragePay (w : World) (A : Option Addr) (n c : Nat) (L : Nat → Fa) (a b known : Int) (h : RdFa w w.heap.size A n L) :
    Calls Try.prog 23 #[.agg #[.slice A n c], .int .i64 a, .int .i64 b, .int .i64 known] w fun e w' => e = .returned (vOpt (payAvgL n L a b known)) ∧ Below w.heap.size w w' := by
  have hbb : Below w.heap.size w ((w.alloc (.cells #[.slice A n c] 26)).alloc (.cells #[.int .i64 0, .int .i64 0] 48)) := (by (repeat (first | (with_reducible exact Below.refl _ _) | (with_reducible assumption) | (with_reducible refine Below.drew ?_) | (with_reducible refine below_drewN ?_ _) | ((with_reducible refine Below.setCell ?_ ?_ _); rotate_left; focus (first | (simp; done) | omega | (simp; omega))) | ((with_reducible refine Below.alloc ?_ ?_ _); rotate_left; focus (first | exact Nat.le_refl _ | omega | (simp; done) | (simp; omega))))))
  obtain ⟨v, hv⟩ : ∃ v, v = payAvgL n L a b known := ⟨_, rfl⟩
  rw [← hv]
  cases ht : (stOk n L && (endB a && endB b))
  · have e0 : v = none := by rw [hv, payAvgL, if_neg (by rw [ht]; simp)]
    rw [e0]
    clear e0 hv v
    go_enter Try.func23, Try.ntmps23
    go_wp2_with fail
    refine (sRange _ A n c L a b ((h.below hbb).more (by simp; omega))).mono ?_
    rintro e w1 ⟨rfl, hb1⟩
    obtain ⟨hc1, hf1⟩ := keepc hb1
    have b0 : w1.cell? ⟨w.heap.size, 0, none⟩ = some (.slice A n c) := by rw [hc1 _ _ (by simp; omega)]; simp [go_sem]
    have hz1 : w.heap.size + 1 < w1.heap.size := by have := hb1.size; simp at this; omega
    have hz1a : w.heap.size < w1.heap.size := by omega
    have hB1 := hbb.trans (hb1.mono (by simp; omega))
    have c0 : w1.cell? ⟨w.heap.size + 1, 0, none⟩ = some (.int .i64 0) := by rw [hc1 _ _ (by first | omega | (simp; done) | (simp; omega))] <;> simp [go_sem, *]
    have f0 : w1.frozen? ⟨w.heap.size + 1, 0, none⟩ = false := by rw [hf1 _ _ (by first | omega | (simp; done) | (simp; omega))] <;> simp [go_sem, *]
    have c1 : w1.cell? ⟨w.heap.size + 1, 1, none⟩ = some (.int .i64 0) := by rw [hc1 _ _ (by first | omega | (simp; done) | (simp; omega))] <;> simp [go_sem, *]
    have f1 : w1.frozen? ⟨w.heap.size + 1, 1, none⟩ = false := by rw [hf1 _ _ (by first | omega | (simp; done) | (simp; omega))] <;> simp [go_sem, *]
    clear hc1 hf1 hb1
    rw [ht]
    go_wp2_with fail
    refine bodyPost_ret (v := vOpt none) ?_ rfl ⟨rfl, ?_⟩
    · simp [results, Try.results23, go_sem, oN_none, oD_none, oB_none, c0, c1]
    · (repeat (first | (with_reducible exact Below.refl _ _) | (with_reducible assumption) | (with_reducible refine Below.drew ?_) | (with_reducible refine below_drewN ?_ _) | ((with_reducible refine Below.setCell ?_ ?_ _); rotate_left; focus (first | (simp; done) | omega | (simp; omega))) | ((with_reducible refine Below.alloc ?_ ?_ _); rotate_left; focus (first | exact Nat.le_refl _ | omega | (simp; done) | (simp; omega)))))
  · have e0 : v = avgL (payF L n known) a b := by rw [hv, payAvgL, if_pos ht]
    clear hv
    have ht2 := ht
    simp only [Bool.and_eq_true] at ht2
    obtain ⟨hok, h1, h2⟩ := ht2
    have ha := inB_iff.1 h1
    have hb := inB_iff.1 h2
    have HE := Lib.hid e0
    clear e0
    have HOK := Lib.hid hok
    clear hok h1 h2
    go_enter Try.func23, Try.ntmps23
    go_wp2_with fail
    refine (sRange _ A n c L a b ((h.below hbb).more (by simp; omega))).mono ?_
    rintro e w1 ⟨rfl, hb1⟩
    obtain ⟨hc1, hf1⟩ := keepc hb1
    have b0 : w1.cell? ⟨w.heap.size, 0, none⟩ = some (.slice A n c) := by rw [hc1 _ _ (by simp; omega)]; simp [go_sem]
    have hz1 : w.heap.size + 1 < w1.heap.size := by have := hb1.size; simp at this; omega
    have hz1a : w.heap.size < w1.heap.size := by omega
    have hB1 := hbb.trans (hb1.mono (by simp; omega))
    have c0 : w1.cell? ⟨w.heap.size + 1, 0, none⟩ = some (.int .i64 0) := by rw [hc1 _ _ (by first | omega | (simp; done) | (simp; omega))] <;> simp [go_sem, *]
    have f0 : w1.frozen? ⟨w.heap.size + 1, 0, none⟩ = false := by rw [hf1 _ _ (by first | omega | (simp; done) | (simp; omega))] <;> simp [go_sem, *]
    have c1 : w1.cell? ⟨w.heap.size + 1, 1, none⟩ = some (.int .i64 0) := by rw [hc1 _ _ (by first | omega | (simp; done) | (simp; omega))] <;> simp [go_sem, *]
    have f1 : w1.frozen? ⟨w.heap.size + 1, 1, none⟩ = false := by rw [hf1 _ _ (by first | omega | (simp; done) | (simp; omega))] <;> simp [go_sem, *]
    clear hc1 hf1 hb1
    rw [ht]
    clear ht
    go_wp2_with fail
    refine (sL12Average w1 A n c L a b known ((h.below hB1).more hB1.size) HOK.out ha.1 ha.2 hb.2).mono ?_
    rw [← HE.out]
    rintro e w3 ⟨rfl, hb3⟩
    obtain ⟨hc3, hf3⟩ := keepc hb3
    have hs3 := hb3.size
    replace c0 : w3.cell? ⟨w.heap.size + 1, 0, none⟩ = some (.int .i64 0) := by rw [hc3 _ _ (by omega)]; exact c0
    replace c1 : w3.cell? ⟨w.heap.size + 1, 1, none⟩ = some (.int .i64 0) := by rw [hc3 _ _ (by omega)]; exact c1
    replace f0 : w3.frozen? ⟨w.heap.size + 1, 0, none⟩ = false := by rw [hf3 _ _ (by omega)]; exact f0
    replace f1 : w3.frozen? ⟨w.heap.size + 1, 1, none⟩ = false := by rw [hf3 _ _ (by omega)]; exact f1
    have hB3 := hB1.trans (hb3.mono hB1.size)
    have hz3 : w.heap.size + 1 < w3.heap.size := by omega
    clear hc3 hf3 hb3 b0 hz1 hz1a
    go_wp2_with fail
    refine bodyPost_ret (v := vOpt v) ?_ rfl ⟨rfl, ?_⟩
    · simp [results, Try.results23, go_sem, c0, c1]
    · (repeat (first | (with_reducible exact Below.refl _ _) | (with_reducible assumption) | (with_reducible refine Below.drew ?_) | (with_reducible refine below_drewN ?_ _) | ((with_reducible refine Below.setCell ?_ ?_ _); rotate_left; focus (first | (simp; done) | omega | (simp; omega))) | ((with_reducible refine Below.alloc ?_ ?_ _); rotate_left; focus (first | exact Nat.le_refl _ | omega | (simp; done) | (simp; omega)))))
end Go.Proofs.Ytondmakaednpdaa
