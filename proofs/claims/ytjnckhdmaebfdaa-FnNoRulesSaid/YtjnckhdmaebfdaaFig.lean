/- The figure of a book, of the program and of the reference. Conditions: rules and variables can be read. -/
import Derived.Test.YtjnckhdmaebfdaaRuleFor
import Derived.Test.YtjnckhdmaebfdaaEvalO
import Derived.Test.YtjnckhdmaebfdaaRound
import Derived.Test.YtjnckhdmaebfdaaSRnd
import Derived.Test.YtjnckhdmaebfdaaKlass
import Derived.Deep.Cut
namespace Go.Proofs.Ytjnckhdmaebfdaa
open Go.RowKit

set_option linter.unusedVariables false
/-- The figure: the rounded value of the rule that holds, and the rule's place. -/
def figT (m : Nat) (R : Nat → Rn) (name mo jo : Int) (vm : Nat) (V : Nat → Fr) : Option (Int × Int) :=
  if bookB m R = true then
    match ruBest R name mo jo m with
    | none => none
    | some j => match evOne (R j).n vm (R j).N V with
      | none => none
      | some x => match roundL x.1 x.2 (R j).s.mo with
        | none => none
        | some z => some (z, (j : Int))
  else none
def figV (r : Option (Int × Int)) : Value := .tuple #[.int .i64 (match r with | none => 0 | some p => p.1), .int .i64 (match r with | none => 0 | some p => p.2), .bool r.isSome]
theorem fig_n {m : Nat} {R : Nat → Rn} (h : bookB m R = true) (i : Nat) (hi : i < m) : (R i).n ≤ 30 ∧ inB (R i).s.mo 1 4 = true := by
  have k := bookB_rule h i hi
  simp only [ruleB, Bool.and_eq_true] at k
  exact ⟨(formB_len k.2.2.2.2.2).2, k.2.2.2.2.1⟩
theorem evOne_good {n m : Nat} {N : Nat → No} {V : Nat → Fr} {x : Fr} (h : evOne n m N V = some x) : fracOkL x = true := by
  rw [evOne, evAll] at h
  split at h
  · rename_i hh
    simp only [Bool.and_eq_true] at hh
    have hl := formB_len hh.1
    have h8 := varsB_len hh.2
    subst h8
    cases e : evF N V n with
    | none => rw [e] at h; cases h
    | some K =>
      rw [e] at h
      injection h with h
      rw [← h]
      exact evF_good (formB_at hh.1) (varsB_at hh.2) (Nat.le_refl _) e (n - 1) (by omega)
  · cases h
theorem round_ok {x : Fr} {mo : Int} (h : fracOkL x = true) (hm : inB mo 1 4 = true) : ∃ z, roundL x.1 x.2 mo = some z := by
  rw [roundL, if_pos (by rw [hm, Bool.and_true]; exact h)]
  exact ⟨_, rfl⟩
theorem round_zero (mo : Int) : roundL 0 0 mo = none := by
  rw [roundL, if_neg (by simp [fracOkL])]

set_option maxRecDepth 8000 in
set_option maxHeartbeats 6400000 in
theorem iFigure (w : World) (A : Option Addr) (m c : Nat) (R : Nat → Rn) (name mo jo : Int) (VA : Option Addr) (vm vc : Nat) (V : Nat → Fr) (h : RdRu w w.heap.size A m R) (hmc : m ≤ c) (hcx : c ≤ 9223372036854775807) (hn : ∀ i, i < m → (R i).n ≤ 1099511627776) (hV : RdFr w w.heap.size VA vm V) :
    Calls Try.prog 42 #[.agg #[.slice A m c], .int .i64 name, .int .i64 mo, .int .i64 jo, .slice VA vm vc] w fun e w' => e = .returned (figV (figT m R name mo jo vm V)) ∧ Below w.heap.size w w' := by
  have hmx := h.1
  have hbx : Below w.heap.size w (w.alloc (.cells #[.slice A m c] 37)) := (by (repeat (first | (with_reducible exact Below.refl _ _) | (with_reducible assumption) | (with_reducible refine Below.drew ?_) | (with_reducible refine below_drewN ?_ _) | ((with_reducible refine Below.setCell ?_ ?_ _); rotate_left; focus (first | (simp; done) | omega | (simp; omega))) | ((with_reducible refine Below.alloc ?_ ?_ _); rotate_left; focus (first | exact Nat.le_refl _ | omega | (simp; done) | (simp; omega))))))
  have hx : RdRu (w.alloc (.cells #[.slice A m c] 37)) (w.alloc (.cells #[.slice A m c] 37)).heap.size A m R := (h.below hbx).more hbx.size
  have hvx : RdFr (w.alloc (.cells #[.slice A m c] 37)) (w.alloc (.cells #[.slice A m c] 37)).heap.size VA vm V := (hV.below hbx).more hbx.size
  have pB : Whole (w.alloc (.cells #[.slice A m c] 37)) w.heap.size 37 #[.slice A m c] := Whole.new _ _ _
  have RF := iRuleFor (w.alloc (.cells #[.slice A m c] 37)) A m c R name mo jo hx hmc hcx hn
  rw [ruleForL] at RF
  rw [figT]
  by_cases t1 : bookB m R = true
  · rw [if_pos t1] at RF ⊢
    cases hq : ruBest R name mo jo m with
    | none =>
      simp only [hq, ruNo] at RF
      clear hq
      go_enter Try.func42, Try.ntmps42
      go_wp2_with fail
      refine RF.mono ?_
      rintro e w1 ⟨rfl, hb1⟩
      go_wp2_with fail
      go_ret3
      exact ⟨rfl, hbx.trans (hb1.mono hbx.size)⟩
    | some j =>
      have hj := ruBest_lt hq
      have hj2 : (j : Int) < m := by omega
      have hj3 : ¬ (j : Int) < 0 := by omega
      have hnm := fig_n t1 j hj
      simp only [hq, ruNo] at RF
      clear hq
      have EV := fun (v : World) (h1 : RdNo v v.heap.size (R j).A (R j).n (R j).N) (h2 : RdFr v v.heap.size VA vm V) => iEval v (R j).A VA (R j).n (R j).c vm vc (R j).N V h1 h2 (by omega)
      cases hr : evOne (R j).n vm (R j).N V with
      | none =>
        simp only [hr, vOpt, oN_none, oD_none, oB_none] at EV ⊢
        clear hr
        have RC := fun (v : World) => iRoundFrac 0 0 (R j).s.mo v
        rw [round_zero] at RC
        simp only [zN_none, zB_none] at RC
        go_enter Try.func42, Try.ntmps42
        go_wp2_with fail
        refine RF.mono ?_
        rintro e w1 ⟨rfl, hb1⟩
        have hs1 := hb1.size
        replace pB := pB.below hb1 pB.lt
        have rd1 := (hx.below hb1).more hs1
        have rv1 := (hvx.below hb1).more hs1
        have hB1 : Below w.heap.size w w1 := hbx.trans (hb1.mono hbx.size)
        clear hb1 hx hvx hbx RF
        obtain ⟨⟨b, off, rfl, hbb, r0, r1, r2, r3, r4, r5, r6⟩, rn⟩ := rd1.2 j hj
        have c0 : w1.cell? ⟨w.heap.size, 0, none⟩ = some (.slice (some ⟨b, off, none⟩) m c) := pB.cell 0
        go_wp2_with fail
        refine (EV w1 rn rv1).mono ?_
        rintro e w2 ⟨rfl, hb2⟩
        have hs2 := hb2.size
        have hB2 := hB1.trans (hb2.mono hB1.size)
        have r52 : w2.cell? ⟨b, off + j * 7 + 5, none⟩ = some (.int .i64 (R j).s.mo) := (hb2.cell (p := ⟨b, off + j * 7 + 5, none⟩) hbb).trans r5
        replace pB := pB.below hb2 pB.lt
        have hbb2 : b < w2.heap.size := by omega
        clear r0 r1 r2 r3 r4 r5 r6 rn rd1 rv1 hb2 hB1 EV c0
        obtain ⟨u2, hu2⟩ : ∃ v, v = w2.alloc (.cells #[.int .i64 0, .int .i64 0] 63) := ⟨_, rfl⟩
        obtain ⟨bt, hbt⟩ : ∃ b, b = w2.heap.size := ⟨_, rfl⟩
        have hbu : Below w2.heap.size w2 u2 := by rw [hu2]; exact (Below.refl _ _).alloc (Nat.le_refl _) _
        have pT : Whole u2 bt 63 #[.int .i64 0, .int .i64 0] := by rw [hu2, hbt]; exact Whole.new _ _ _
        have r5u : u2.cell? ⟨b, off + j * 7 + 5, none⟩ = some (.int .i64 (R j).s.mo) := (hbu.cell (p := ⟨b, off + j * 7 + 5, none⟩) hbb2).trans r52
        replace pB := pB.below hbu pB.lt
        have hBu := hB2.trans (hbu.mono hB2.size)
        have hsu := hbu.size
        go_upto_region 5 with fail
        rw [← hu2]
        rw [← hbt]
        clear hu2 hbt hbu hB2 r52
        obtain ⟨S, hSd⟩ : ∃ S : World → Prop, S = fun v => Below u2.heap.size u2 v := ⟨_, rfl⟩
        have hS0 : S u2.drew := by rw [hSd]; exact Below.drew (Below.refl _ _)
        have hkeep : ∀ (u u' : World), S u → Below u.heap.size u u' → S u' := by
          intro u u' hu hb
          rw [hSd] at hu ⊢
          exact Below.trans hu (hb.mono hu.size)
        have hSend : ∀ u, S u → Below u2.heap.size u2 u := by intro u hu; rw [hSd] at hu; exact hu
        have hne0 : Nonempty (InClass S) := ⟨⟨_, hS0⟩⟩
        clear hSd
        have kcell : ∀ (x : InClass S) (p : Addr) (v : Value), p.block < u2.heap.size → u2.cell? p = some v → x.w.cell? p = some v := fun x p v hp hv => ((hSend _ x.h).cell hp).trans hv
        have k0 : ∀ x : InClass S, x.w.cell? ⟨bt, 0, none⟩ = some (.int .i64 0) := fun x => kcell x _ _ pT.lt (pT.cell 0)
        have k1 : ∀ x : InClass S, x.w.cell? ⟨bt, 1, none⟩ = some (.int .i64 0) := fun x => kcell x _ _ pT.lt (pT.cell 1)
        have k2 : ∀ x : InClass S, x.w.cell? ⟨w.heap.size, 0, none⟩ = some (.slice (some ⟨b, off, none⟩) m c) := fun x => kcell x _ _ pB.lt (pB.cell 0)
        have k3 : ∀ x : InClass S, x.w.cell? ⟨b, off + j * 7 + 5, none⟩ = some (.int .i64 (R j).s.mo) := fun x => kcell x _ _ (show b < _ by omega) r5u
        clear r5u kcell pT pB
        refine wp_region_class (S := S) (by kernel_rfl) (by kernel_rfl) hS0 ?_
        repeat (go_big_quiet_step ((go_at_call 76; exact class_call (RC _) hkeep)))
        refine wpQuiet_nil ?_
        rintro w5 ⟨x5, hx5⟩
        have hS5 := hSend w5 (by rw [hx5]; exact x5.h)
        clear hx5 x5
        go_wp2_with fail
        go_ret3
        exact ⟨rfl, hBu.trans (hS5.mono hBu.size)⟩
      | some y =>
        obtain ⟨z, hz⟩ := round_ok (evOne_good hr) hnm.2
        obtain ⟨kn, kd⟩ := y
        dsimp only at hz
        have RC := fun (v : World) => iRoundFrac kn kd (R j).s.mo v
        simp only [hr, vOpt, oN_some, oD_some, oB_some] at EV ⊢
        rw [hz] at RC ⊢
        simp only [zN_some, zB_some] at RC
        clear hr hz
        go_enter Try.func42, Try.ntmps42
        go_wp2_with fail
        refine RF.mono ?_
        rintro e w1 ⟨rfl, hb1⟩
        have hs1 := hb1.size
        replace pB := pB.below hb1 pB.lt
        have rd1 := (hx.below hb1).more hs1
        have rv1 := (hvx.below hb1).more hs1
        have hB1 : Below w.heap.size w w1 := hbx.trans (hb1.mono hbx.size)
        clear hb1 hx hvx hbx RF
        obtain ⟨⟨b, off, rfl, hbb, r0, r1, r2, r3, r4, r5, r6⟩, rn⟩ := rd1.2 j hj
        have c0 : w1.cell? ⟨w.heap.size, 0, none⟩ = some (.slice (some ⟨b, off, none⟩) m c) := pB.cell 0
        go_wp2_with fail
        refine (EV w1 rn rv1).mono ?_
        rintro e w2 ⟨rfl, hb2⟩
        have hs2 := hb2.size
        have hB2 := hB1.trans (hb2.mono hB1.size)
        have r52 : w2.cell? ⟨b, off + j * 7 + 5, none⟩ = some (.int .i64 (R j).s.mo) := (hb2.cell (p := ⟨b, off + j * 7 + 5, none⟩) hbb).trans r5
        replace pB := pB.below hb2 pB.lt
        have hbb2 : b < w2.heap.size := by omega
        clear r0 r1 r2 r3 r4 r5 r6 rn rd1 rv1 hb2 hB1 EV c0
        obtain ⟨u2, hu2⟩ : ∃ v, v = w2.alloc (.cells #[.int .i64 kn, .int .i64 kd] 63) := ⟨_, rfl⟩
        obtain ⟨bt, hbt⟩ : ∃ b, b = w2.heap.size := ⟨_, rfl⟩
        have hbu : Below w2.heap.size w2 u2 := by rw [hu2]; exact (Below.refl _ _).alloc (Nat.le_refl _) _
        have pT : Whole u2 bt 63 #[.int .i64 kn, .int .i64 kd] := by rw [hu2, hbt]; exact Whole.new _ _ _
        have r5u : u2.cell? ⟨b, off + j * 7 + 5, none⟩ = some (.int .i64 (R j).s.mo) := (hbu.cell (p := ⟨b, off + j * 7 + 5, none⟩) hbb2).trans r52
        replace pB := pB.below hbu pB.lt
        have hBu := hB2.trans (hbu.mono hB2.size)
        have hsu := hbu.size
        go_upto_region 5 with fail
        rw [← hu2]
        rw [← hbt]
        clear hu2 hbt hbu hB2 r52
        obtain ⟨S, hSd⟩ : ∃ S : World → Prop, S = fun v => Below u2.heap.size u2 v := ⟨_, rfl⟩
        have hS0 : S u2.drew := by rw [hSd]; exact Below.drew (Below.refl _ _)
        have hkeep : ∀ (u u' : World), S u → Below u.heap.size u u' → S u' := by
          intro u u' hu hb
          rw [hSd] at hu ⊢
          exact Below.trans hu (hb.mono hu.size)
        have hSend : ∀ u, S u → Below u2.heap.size u2 u := by intro u hu; rw [hSd] at hu; exact hu
        have hne0 : Nonempty (InClass S) := ⟨⟨_, hS0⟩⟩
        clear hSd
        have kcell : ∀ (x : InClass S) (p : Addr) (v : Value), p.block < u2.heap.size → u2.cell? p = some v → x.w.cell? p = some v := fun x p v hp hv => ((hSend _ x.h).cell hp).trans hv
        have k0 : ∀ x : InClass S, x.w.cell? ⟨bt, 0, none⟩ = some (.int .i64 kn) := fun x => kcell x _ _ pT.lt (pT.cell 0)
        have k1 : ∀ x : InClass S, x.w.cell? ⟨bt, 1, none⟩ = some (.int .i64 kd) := fun x => kcell x _ _ pT.lt (pT.cell 1)
        have k2 : ∀ x : InClass S, x.w.cell? ⟨w.heap.size, 0, none⟩ = some (.slice (some ⟨b, off, none⟩) m c) := fun x => kcell x _ _ pB.lt (pB.cell 0)
        have k3 : ∀ x : InClass S, x.w.cell? ⟨b, off + j * 7 + 5, none⟩ = some (.int .i64 (R j).s.mo) := fun x => kcell x _ _ (show b < _ by omega) r5u
        clear r5u kcell pT pB
        refine wp_region_class (S := S) (by kernel_rfl) (by kernel_rfl) hS0 ?_
        repeat (go_big_quiet_step ((go_at_call 76; exact class_call (RC _) hkeep)))
        refine wpQuiet_nil ?_
        rintro w5 ⟨x5, hx5⟩
        have hS5 := hSend w5 (by rw [hx5]; exact x5.h)
        clear hx5 x5
        go_wp2_with fail
        go_ret3
        exact ⟨rfl, hBu.trans (hS5.mono hBu.size)⟩
  · rw [if_neg t1] at RF ⊢
    go_enter Try.func42, Try.ntmps42
    go_wp2_with fail
    refine RF.mono ?_
    rintro e w1 ⟨rfl, hb1⟩
    go_wp2_with fail
    go_ret3
    exact ⟨rfl, hbx.trans (hb1.mono hbx.size)⟩

set_option maxRecDepth 8000 in
set_option maxHeartbeats 6400000 in
theorem sFigure (w : World) (A : Option Addr) (m c : Nat) (R : Nat → Rn) (name mo jo : Int) (VA : Option Addr) (vm vc : Nat) (V : Nat → Fr) (h : RdRu w w.heap.size A m R) (hmc : m ≤ c) (hcx : c ≤ 9223372036854775807) (hn : ∀ i, i < m → (R i).n ≤ 1099511627776) (hV : RdFr w w.heap.size VA vm V) :
    Calls Try.prog 47 #[.agg #[.slice A m c], .int .i64 name, .int .i64 mo, .int .i64 jo, .slice VA vm vc] w fun e w' => e = .returned (figV (figT m R name mo jo vm V)) ∧ Below w.heap.size w w' := by
  have hmx := h.1
  have hbx : Below w.heap.size w (w.alloc (.cells #[.slice A m c] 37)) := (by (repeat (first | (with_reducible exact Below.refl _ _) | (with_reducible assumption) | (with_reducible refine Below.drew ?_) | (with_reducible refine below_drewN ?_ _) | ((with_reducible refine Below.setCell ?_ ?_ _); rotate_left; focus (first | (simp; done) | omega | (simp; omega))) | ((with_reducible refine Below.alloc ?_ ?_ _); rotate_left; focus (first | exact Nat.le_refl _ | omega | (simp; done) | (simp; omega))))))
  have hx : RdRu (w.alloc (.cells #[.slice A m c] 37)) (w.alloc (.cells #[.slice A m c] 37)).heap.size A m R := (h.below hbx).more hbx.size
  have hvx : RdFr (w.alloc (.cells #[.slice A m c] 37)) (w.alloc (.cells #[.slice A m c] 37)).heap.size VA vm V := (hV.below hbx).more hbx.size
  have pB : Whole (w.alloc (.cells #[.slice A m c] 37)) w.heap.size 37 #[.slice A m c] := Whole.new _ _ _
  have RF := sRuleFor (w.alloc (.cells #[.slice A m c] 37)) A m c R name mo jo hx hmc hcx hn
  rw [ruleForL] at RF
  rw [figT]
  by_cases t1 : bookB m R = true
  · rw [if_pos t1] at RF ⊢
    cases hq : ruBest R name mo jo m with
    | none =>
      simp only [hq, ruNo] at RF
      clear hq
      go_enter Try.func47, Try.ntmps47
      go_wp2_with fail
      refine RF.mono ?_
      rintro e w1 ⟨rfl, hb1⟩
      go_wp2_with fail
      go_ret3
      exact ⟨rfl, hbx.trans (hb1.mono hbx.size)⟩
    | some j =>
      have hj := ruBest_lt hq
      have hj2 : (j : Int) < m := by omega
      have hj3 : ¬ (j : Int) < 0 := by omega
      have hnm := fig_n t1 j hj
      simp only [hq, ruNo] at RF
      clear hq
      have EV := fun (v : World) (h1 : RdNo v v.heap.size (R j).A (R j).n (R j).N) (h2 : RdFr v v.heap.size VA vm V) => sEval v (R j).A VA (R j).n (R j).c vm vc (R j).N V h1 h2 (by omega)
      cases hr : evOne (R j).n vm (R j).N V with
      | none =>
        simp only [hr, vOpt, oN_none, oD_none, oB_none] at EV ⊢
        clear hr
        go_enter Try.func47, Try.ntmps47
        go_wp2_with fail
        refine RF.mono ?_
        rintro e w1 ⟨rfl, hb1⟩
        have hs1 := hb1.size
        replace pB := pB.below hb1 pB.lt
        have rd1 := (hx.below hb1).more hs1
        have rv1 := (hvx.below hb1).more hs1
        have hB1 : Below w.heap.size w w1 := hbx.trans (hb1.mono hbx.size)
        clear hb1 hx hvx hbx RF
        obtain ⟨⟨b, off, rfl, hbb, r0, r1, r2, r3, r4, r5, r6⟩, rn⟩ := rd1.2 j hj
        have c0 : w1.cell? ⟨w.heap.size, 0, none⟩ = some (.slice (some ⟨b, off, none⟩) m c) := pB.cell 0
        go_wp2_with fail
        refine (EV w1 rn rv1).mono ?_
        rintro e w2 ⟨rfl, hb2⟩
        have hs2 := hb2.size
        have hB2 := hB1.trans (hb2.mono hB1.size)
        have r52 : w2.cell? ⟨b, off + j * 7 + 5, none⟩ = some (.int .i64 (R j).s.mo) := (hb2.cell (p := ⟨b, off + j * 7 + 5, none⟩) hbb).trans r5
        replace pB := pB.below hb2 pB.lt
        have hbb2 : b < w2.heap.size := by omega
        clear r0 r1 r2 r3 r4 r5 r6 rn rd1 rv1 hb2 hB1 EV c0
        go_wp2_with fail
        go_ret3
        exact ⟨rfl, hB2.alloc hB2.size _⟩
      | some y =>
        obtain ⟨z, hz⟩ := round_ok (evOne_good hr) hnm.2
        obtain ⟨kn, kd⟩ := y
        dsimp only at hz
        have RC := fun (v : World) => sRoundFrac kn kd (R j).s.mo v
        simp only [hr, vOpt, oN_some, oD_some, oB_some] at EV ⊢
        rw [hz] at RC ⊢
        simp only [zN_some, zB_some] at RC
        clear hr hz
        go_enter Try.func47, Try.ntmps47
        go_wp2_with fail
        refine RF.mono ?_
        rintro e w1 ⟨rfl, hb1⟩
        have hs1 := hb1.size
        replace pB := pB.below hb1 pB.lt
        have rd1 := (hx.below hb1).more hs1
        have rv1 := (hvx.below hb1).more hs1
        have hB1 : Below w.heap.size w w1 := hbx.trans (hb1.mono hbx.size)
        clear hb1 hx hvx hbx RF
        obtain ⟨⟨b, off, rfl, hbb, r0, r1, r2, r3, r4, r5, r6⟩, rn⟩ := rd1.2 j hj
        have c0 : w1.cell? ⟨w.heap.size, 0, none⟩ = some (.slice (some ⟨b, off, none⟩) m c) := pB.cell 0
        go_wp2_with fail
        refine (EV w1 rn rv1).mono ?_
        rintro e w2 ⟨rfl, hb2⟩
        have hs2 := hb2.size
        have hB2 := hB1.trans (hb2.mono hB1.size)
        have r52 : w2.cell? ⟨b, off + j * 7 + 5, none⟩ = some (.int .i64 (R j).s.mo) := (hb2.cell (p := ⟨b, off + j * 7 + 5, none⟩) hbb).trans r5
        replace pB := pB.below hb2 pB.lt
        have hbb2 : b < w2.heap.size := by omega
        clear r0 r1 r2 r3 r4 r5 r6 rn rd1 rv1 hb2 hB1 EV c0
        obtain ⟨u2, hu2⟩ : ∃ v, v = w2.alloc (.cells #[.int .i64 kn, .int .i64 kd] 63) := ⟨_, rfl⟩
        obtain ⟨bt, hbt⟩ : ∃ b, b = w2.heap.size := ⟨_, rfl⟩
        have hbu : Below w2.heap.size w2 u2 := by rw [hu2]; exact (Below.refl _ _).alloc (Nat.le_refl _) _
        have pT : Whole u2 bt 63 #[.int .i64 kn, .int .i64 kd] := by rw [hu2, hbt]; exact Whole.new _ _ _
        have r5u : u2.cell? ⟨b, off + j * 7 + 5, none⟩ = some (.int .i64 (R j).s.mo) := (hbu.cell (p := ⟨b, off + j * 7 + 5, none⟩) hbb2).trans r52
        replace pB := pB.below hbu pB.lt
        have hBu := hB2.trans (hbu.mono hB2.size)
        have hsu := hbu.size
        go_upto_region 7 with fail
        rw [← hu2]
        rw [← hbt]
        clear hu2 hbt hbu hB2 r52
        obtain ⟨S, hSd⟩ : ∃ S : World → Prop, S = fun v => Below u2.heap.size u2 v := ⟨_, rfl⟩
        have hS0 : S u2.drew := by rw [hSd]; exact Below.drew (Below.refl _ _)
        have hkeep : ∀ (u u' : World), S u → Below u.heap.size u u' → S u' := by
          intro u u' hu hb
          rw [hSd] at hu ⊢
          exact Below.trans hu (hb.mono hu.size)
        have hSend : ∀ u, S u → Below u2.heap.size u2 u := by intro u hu; rw [hSd] at hu; exact hu
        have hne0 : Nonempty (InClass S) := ⟨⟨_, hS0⟩⟩
        clear hSd
        have kcell : ∀ (x : InClass S) (p : Addr) (v : Value), p.block < u2.heap.size → u2.cell? p = some v → x.w.cell? p = some v := fun x p v hp hv => ((hSend _ x.h).cell hp).trans hv
        have k0 : ∀ x : InClass S, x.w.cell? ⟨bt, 0, none⟩ = some (.int .i64 kn) := fun x => kcell x _ _ pT.lt (pT.cell 0)
        have k1 : ∀ x : InClass S, x.w.cell? ⟨bt, 1, none⟩ = some (.int .i64 kd) := fun x => kcell x _ _ pT.lt (pT.cell 1)
        have k2 : ∀ x : InClass S, x.w.cell? ⟨w.heap.size, 0, none⟩ = some (.slice (some ⟨b, off, none⟩) m c) := fun x => kcell x _ _ pB.lt (pB.cell 0)
        have k3 : ∀ x : InClass S, x.w.cell? ⟨b, off + j * 7 + 5, none⟩ = some (.int .i64 (R j).s.mo) := fun x => kcell x _ _ (show b < _ by omega) r5u
        clear r5u kcell pT pB
        refine wp_region_class (S := S) (by kernel_rfl) (by kernel_rfl) hS0 ?_
        repeat (go_big_quiet_step ((go_at_call 45; exact class_call (RC _) hkeep)))
        refine wpQuiet_nil ?_
        rintro w5 ⟨x5, hx5⟩
        have hS5 := hSend w5 (by rw [hx5]; exact x5.h)
        clear hx5 x5
        go_wp2_with fail
        go_ret3
        exact ⟨rfl, hBu.trans (hS5.mono hBu.size)⟩
  · rw [if_neg t1] at RF ⊢
    go_enter Try.func47, Try.ntmps47
    go_wp2_with fail
    refine RF.mono ?_
    rintro e w1 ⟨rfl, hb1⟩
    go_wp2_with fail
    go_ret3
    exact ⟨rfl, hbx.trans (hb1.mono hbx.size)⟩
end Go.Proofs.Ytjnckhdmaebfdaa
