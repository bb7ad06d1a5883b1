/- An inserted spell keeps the spells valid and adds its service. No conditions. -/
import Derived.Test.YtmbmpogdakoloaaAddSp
import Derived.Test.YtmbmpogdakoloaaDrawSp
import Derived.Test.YtmbmpogdakoloaaServ
import Derived.Test.YtmbmpogdakoloaaServedL
import Derived.Test.YtmbmpogdakoloaaPlaces
import Derived.Test.YtmbmpogdakoloaaKlass
import Derived.Deep.DeepCutAuto
namespace Go.Proofs.Ytmbmpogdakoloaa
open Go.RowKit
set_option linter.unusedVariables false
set_option linter.unusedSimpArgs false
theorem ins_at {L : Nat → Sp} {k : Nat} {a v : Int} (h : spChain L k a) (hv : a ≤ v) : atL L v k = k := atL_no fun j hj => by
  have := h j hj
  omega
theorem ins_chain {L : Nat → Sp} {k : Nat} {a b f t p : Int} (h : spChain L k a) (h0 : 0 ≤ f) (h1 : a ≤ f) (h2 : f < t) (h3 : t ≤ b) (h4 : 1 ≤ p) (h5 : p ≤ 100) : spChain (insL L k ⟨f, t, p, false⟩) (k + 1) b := fun i hi => by
  by_cases e : i < k
  · have q := h i e
    have e2 : insL L k ⟨f, t, p, false⟩ i = L i := by rw [insL, if_pos e]
    have e3 : insL L k ⟨f, t, p, false⟩ (i - 1) = L (i - 1) := by rw [insL, if_pos (by omega)]
    rw [e2, e3]
    omega
  · have e1 : i = k := by omega
    subst e1
    have e2 : insL L i ⟨f, t, p, false⟩ i = ⟨f, t, p, false⟩ := by rw [insL, if_neg (by omega), if_pos rfl]
    rw [e2]
    refine ⟨h0, h2, h3, h4, h5, ?_⟩
    by_cases e4 : i = 0
    · exact .inl e4
    · have e3 : insL L i ⟨f, t, p, false⟩ (i - 1) = L (i - 1) := by rw [insL, if_pos (by omega)]
      rw [e3]
      have q := h (i - 1) (by omega)
      exact .inr (by show _ ≤ f; omega)
theorem ins_last (L : Nat → Sp) (k : Nat) (x : Sp) : insL L k x k = x := by rw [insL, if_neg (by omega), if_pos rfl]
/-- The inserted spell is the last one, and the list is good. -/
theorem ins_once {L : Nat → Sp} {k : Nat} {a f t p : Int} (h : spChain L k a) (ha : a ≤ 300) (hk : k ≤ 6) (h1 : 300 ≤ f) (h2 : f < t) (h3 : t ≤ 3600) (h4 : 1 ≤ p) (h5 : p ≤ 100) : addL k L ⟨f, t, p, false⟩ = insL L k ⟨f, t, p, false⟩ ∧ spOk (k + 1) (insL L k ⟨f, t, p, false⟩) = true ∧ addOk k L ⟨f, t, p, false⟩ = true ∧ addN k L ⟨f, t, p, false⟩ = k + 1 ∧ addM k L ⟨f, t, p, false⟩ = insL L k ⟨f, t, p, false⟩ := by
  have e1 : addL k L ⟨f, t, p, false⟩ = insL L k ⟨f, t, p, false⟩ := by rw [addL, ins_at h (by show a ≤ f; omega)]
  have e2 : spOk (k + 1) (insL L k ⟨f, t, p, false⟩) = true := (ins_chain h (by omega) (by omega) h2 h3 h4 h5).ok (by omega) (by omega)
  have e3 : addOk k L ⟨f, t, p, false⟩ = true := by rw [addOk, h.ok (by omega) (by omega), e1, e2]; rfl
  exact ⟨e1, e2, e3, by rw [addN, e3]; rfl, by rw [addM, e3, e1]; rfl⟩
/-- A second one clashes. -/
theorem ins_twice {L : Nat → Sp} {k : Nat} {a f t p : Int} (h : spChain L k a) (ha : a ≤ 300) (h1 : 300 ≤ f) (h2 : f < t) (h4 : 1 ≤ p) (h5 : p ≤ 100) : addOk (k + 1) (insL L k ⟨f, t, p, false⟩) ⟨f, t, p, false⟩ = false := by
  have e0 : atL (insL L k ⟨f, t, p, false⟩) f (k + 1) = k + 1 := atL_no fun j hj => by
    by_cases e : j < k
    · rw [insL, if_pos e]
      have := h j e
      omega
    · rw [show j = k by omega, ins_last]
      exact Int.le_refl _
  have e1 : addL (k + 1) (insL L k ⟨f, t, p, false⟩) ⟨f, t, p, false⟩ = insL (insL L k ⟨f, t, p, false⟩) (k + 1) ⟨f, t, p, false⟩ := by rw [addL]; rw [e0]
  rw [addOk, e1]
  have e2 : spOk (k + 1 + 1) (insL (insL L k ⟨f, t, p, false⟩) (k + 1) ⟨f, t, p, false⟩) = false := spOk_no (k := k + 1) (by omega) (by
    have q1 := ins_last (insL L k ⟨f, t, p, false⟩) (k + 1) ⟨f, t, p, false⟩
    have q2 : insL (insL L k ⟨f, t, p, false⟩) (k + 1) ⟨f, t, p, false⟩ (k + 1 - 1) = ⟨f, t, p, false⟩ := by rw [insL, if_pos (by omega), show k + 1 - 1 = k by omega, ins_last]
    rw [spGood, q1, q2]
    have : decide (f < t) = true := by simpa using h2
    simp [this])
  rw [e2, Bool.and_false]
theorem svSum_congr {L M : Nat → Sp} {a b : Int} : ∀ {n : Nat}, (∀ i, i < n → L i = M i) → svSum L a b n = svSum M a b n
  | 0, _ => rfl
  | n + 1, h => by rw [svSum, svSum, svSum_congr fun i hi => h i (by omega), h n (by omega)]
theorem ins_service {L : Nat → Sp} {k : Nat} {f t p : Int} (hok : spOk k L = true) (hok2 : spOk (k + 1) (insL L k ⟨f, t, p, false⟩) = true) (h1 : 300 ≤ f) (h2 : f < t) (h3 : t ≤ 3600) : serviceL (k + 1) (insL L k ⟨f, t, p, false⟩) 0 3600 = serviceL k L 0 3600 + p * (t - f) := by
  have e1 : svSum (insL L k ⟨f, t, p, false⟩) 0 3600 k = svSum L 0 3600 k := svSum_congr fun i hi => by rw [insL, if_pos hi]
  have e2 : svOne ⟨f, t, p, false⟩ 0 3600 = p * (t - f) := by
    rw [svOne, if_neg (by simp), monthsL]
    have hf : endB f = true := by simp only [endB, inB_iff]; omega
    have ht : endB t = true := by simp only [endB, inB_iff]; omega
    have h0 : endB 0 = true := by decide
    have h9 : endB 3600 = true := by decide
    simp only [hf, ht, h0, h9, Bool.and_true, if_true]
    congr 1
    omega
  rw [serviceL, serviceL, if_pos hok, if_pos hok2, svSum, e1, ins_last, e2]

set_option maxRecDepth 8000 in
set_option maxHeartbeats 6400000 in
theorem walkInserted (A : Option Addr) (n c : Nat) (w : World) (hb : Bys w w.heap.size A n) :
    Calls Try.prog 11 #[.slice A n c] w fun e w' => e = .returned (.bool true) ∧ Below w.heap.size w w' := by
  have hn := hb.1
  by_cases hbig : (1048576 : Int) < n
  · have hd : decide ((1048576 : Int) < n) = true := by simpa using hbig
    go_enter Try.func11, Try.ntmps11
    go_wp2_with fail
    refine (lBig _ _ _ _ (by omega)).mono ?_
    rintro e w' ⟨rfl, rfl⟩
    go_wp2_with fail
    go_ret
    exact ⟨rfl, Below.refl _ _⟩
  · have hbg : decide ((1048576 : Int) < n) = false := by simpa using hbig
    go_enter Try.func11, Try.ntmps11
    go_wp2_with fail
    refine (lBig _ _ _ _ (by omega)).mono ?_
    rintro e w' ⟨rfl, rfl⟩
    go_wp2_with fail
    refine (sDrawSpells _ _ _ _ hb).mono ?_
    rintro e w1 ⟨v, k, xs, a0, rfl, hk6, hl, hch, ha, own, hb1⟩
    have hok := hch.ok (by omega) (by omega)
    have ow := OwSp.list own hl
    obtain ⟨L, hL⟩ : ∃ L : Nat → Sp, L = fun i => xs.getD i Sp.zero := ⟨_, rfl⟩
    rw [← hL] at hok ow hch
    clear hL own hl
    have hCn : ∀ C cc, v = .slice C k cc → C = none → k = 0 ∧ cc = 0 := fun C cc e1 e2 => by
      rcases ow with ⟨h1, h2⟩ | ⟨g, cap, G, h1, _⟩
      · rw [e1] at h1; injection h1 with _ _ h3; exact ⟨h2, h3⟩
      · rw [e1, e2] at h1; injection h1 with h1; cases h1
    obtain ⟨C, cc, rfl⟩ := ow.form
    have HC := Lib.hid (hCn C cc rfl)
    have rd := RdSp.own ow
    clear ow hCn
    have hs1 := hb1.size
    go_wp2_with fail
    refine (sPlacesAt w1 _ _ _ ((hb.below hb1).more hs1)).mono ?_
    rintro e w2 ⟨g, cap, f, rfl, hg0, hg1, hp, hb2⟩
    obtain ⟨p0, x0a, x0b⟩ := hp 0 (by omega)
    obtain ⟨p1, x1a, x1b⟩ := hp 1 (by omega)
    obtain ⟨p2, x2a, x2b⟩ := hp 2 (by omega)
    clear hp
    generalize f 0 = x0 at *
    generalize f 1 = x1 at *
    generalize f 2 = x2 at *
    have x0m0 := Int.emod_nonneg x0 (show (50 : Int) ≠ 0 by omega)
    have x0m1 := Int.emod_lt_of_pos x0 (show (0 : Int) < 50 by omega)
    have x0m2 : x0.tmod 50 = x0 % 50 := Int.tmod_eq_emod_of_nonneg x0a
    have x1m0 := Int.emod_nonneg x1 (show (50 : Int) ≠ 0 by omega)
    have x1m1 := Int.emod_lt_of_pos x1 (show (0 : Int) < 50 by omega)
    have x1m2 : x1.tmod 50 = x1 % 50 := Int.tmod_eq_emod_of_nonneg x1a
    have x2m0 := Int.emod_nonneg x2 (show (100 : Int) ≠ 0 by omega)
    have x2m1 := Int.emod_lt_of_pos x2 (show (0 : Int) < 100 by omega)
    have x2m2 : x2.tmod 100 = x2 % 100 := Int.tmod_eq_emod_of_nonneg x2a
    obtain ⟨xf, hxf⟩ : ∃ v, v = 300 + x0 % 50 := ⟨_, rfl⟩
    obtain ⟨xt, hxt⟩ : ∃ v, v = 360 + x1 % 50 := ⟨_, rfl⟩
    obtain ⟨xp, hxp⟩ : ∃ v, v = 1 + x2 % 100 := ⟨_, rfl⟩
    have i0 : IntKind.i64.wrap (300 + x0 % 50) = xf := by rw [hxf]; exact IntWalk.i64_in _ ⟨by omega, by omega⟩
    have i1 : IntKind.i64.wrap (360 + x1 % 50) = xt := by rw [hxt]; exact IntWalk.i64_in _ ⟨by omega, by omega⟩
    have i2 : IntKind.i64.wrap (1 + x2 % 100) = xp := by rw [hxp]; exact IntWalk.i64_in _ ⟨by omega, by omega⟩
    have f1 : 300 ≤ xf ∧ xf ≤ 349 := by omega
    have f2 : 360 ≤ xt ∧ xt ≤ 409 := by omega
    have f3 : 1 ≤ xp ∧ xp ≤ 100 := by omega
    clear hxf hxt hxp x0m0 x0m1 x1m0 x1m1 x2m0 x2m1
    have hs2 := hb2.size
    replace rd := (rd.below hb2).more hs2
    have hB2 : Below w.heap.size w w2 := hb1.trans (hb2.mono hs1)
    clear hb1 hb2
    obtain ⟨e1, e2, e3, e4, e5⟩ := ins_once hch ha hk6 f1.1 (show xf < xt by omega) (by omega) f3.1 f3.2
    have e6 := ins_twice hch ha f1.1 (show xf < xt by omega) f3.1 f3.2
    have e7 := ins_service hok e2 f1.1 (show xf < xt by omega) (by omega)
    obtain ⟨M, hM⟩ : ∃ M, M = insL L k ⟨xf, xt, xp, false⟩ := ⟨_, rfl⟩
    rw [← hM] at e1 e2 e5 e6 e7
    have CA := fun (u : World) (hu : RdSp u u.heap.size C k L) => iAddSpell u C k cc L ⟨xf, xt, xp, false⟩ hu HC.out (by omega)
    simp only [e3, e4, e5] at CA
    have CB := fun (u : World) (B : Option Addr) (c2 : Nat) (hu : RdSp u u.heap.size B (k + 1) M) (hz : B = none → k + 1 = 0 ∧ c2 = 0) => iAddSpell u B (k + 1) c2 M ⟨xf, xt, xp, false⟩ hu hz (by omega)
    simp only [e6] at CB
    have CS := fun (u : World) (B : Option Addr) (c2 : Nat) (hu : RdSp u u.heap.size B (k + 1) M) => iSpellsOk u B (k + 1) c2 M hu
    simp only [e2] at CS
    have CI := fun (u : World) (B : Option Addr) (c2 : Nat) (hu : RdSp u u.heap.size B (k + 1) M) => iServiceIn u B (k + 1) c2 M 0 3600 hu
    simp only [e7] at CI
    have CL := fun (u : World) (hu : RdSp u u.heap.size C k L) => sServiceIn u C k cc L 0 3600 hu
    have hsv := svSum_bd hok 0 3600 k (Nat.le_refl _)
    have hsv2 : serviceL k L 0 3600 = svSum L 0 3600 k := by rw [serviceL, if_pos hok]
    rw [← hsv2] at hsv
    obtain ⟨S0, hS0⟩ : ∃ v, v = serviceL k L 0 3600 := ⟨_, rfl⟩
    rw [← hS0] at hsv
    simp only [← hS0] at CI CL
    have j0 : IntKind.i64.wrap (xt - xf) = xt - xf := IntWalk.i64_in _ ⟨by omega, by omega⟩
    have hmu : 0 ≤ xp * (xt - xf) ∧ xp * (xt - xf) ≤ 100 * 109 := ⟨Int.mul_nonneg (by omega) (by omega), Int.mul_le_mul (by omega) (by omega) (by omega) (by omega)⟩
    have j1 : IntKind.i64.wrap (xp * (xt - xf)) = xp * (xt - xf) := IntWalk.i64_in _ ⟨by omega, by omega⟩
    have j2 : IntKind.i64.wrap (S0 + xp * (xt - xf)) = S0 + xp * (xt - xf) := IntWalk.i64_in _ ⟨by omega, by omega⟩
    have j3 : IntKind.i64.wrap ((k : Int) + 1) = (k : Int) + 1 := IntWalk.i64_in _ ⟨by omega, by omega⟩
    have HF := Lib.hid (And.intro f1 (And.intro f2 (And.intro f3 (And.intro hsv hmu))))
    clear e1 e2 e3 e4 e5 e6 e7 hM hok hch ha hsv hsv2 hS0 hmu f1 f2 f3
    go_upto_region 5 with fail
    go_cut [5] (fun s5 wx => s5 = .pointer (some ⟨w2.heap.size, 0, none⟩) ∧ Whole wx w2.heap.size 29 #[.int .i64 xf, .int .i64 xt, .int .i64 xp, .bool false] ∧ Below w.heap.size w wx ∧ Below w2.heap.size w2 wx)
    case first =>
      go_region
      all_goals (go_wp2_with fail; go_meet; exact ⟨rfl, Whole.new w2 _ _, (hB2.alloc hB2.size _).drew, ((Below.refl _ _).alloc (Nat.le_refl _) _).drew⟩)
    case rest =>
      obtain ⟨rfl, pX, hB3, hc3⟩ := hcut
      obtain ⟨w3, hw3⟩ : ∃ v, v = wc := ⟨_, rfl⟩
      obtain ⟨xb, hxb⟩ : ∃ v, v = w2.heap.size := ⟨_, rfl⟩
      rw [← hw3] at pX hB3 hc3 ⊢
      rw [← hxb] at pX ⊢
      replace rd := (rd.below hc3).more hc3.size
      clear hw3 wc hxb hc3 p0 p1 p2 i0 i1 i2 x0m2 x1m2 x2m2 hB2 hs2 hs1 hg0 hg1 x0a x0b x1a x1b x2a x2b
      have c0 : w3.cell? ⟨xb, 0, none⟩ = some (.int .i64 xf) := pX.cell 0
      have c1 : w3.cell? ⟨xb, 1, none⟩ = some (.int .i64 xt) := pX.cell 1
      have c2 : w3.cell? ⟨xb, 2, none⟩ = some (.int .i64 xp) := pX.cell 2
      have c3 : w3.cell? ⟨xb, 3, none⟩ = some (.bool false) := pX.cell 3
      have cz := pX.lt
      go_wp2_with fail
      refine (CA w3 rd).mono ?_
      rintro e w4 ⟨B, c2, rfl, own4, hb4⟩
      clear c0 c1 c3 cz CA
      have hBn : B = none → k + 1 = 0 ∧ c2 = 0 := fun e2 => by
        rcases own4 with ⟨h1, h2⟩ | ⟨g2, cap2, G2, h1, _⟩
        · omega
        · rw [e2] at h1; injection h1 with h1; cases h1
      have rdB := RdSp.own own4
      have hs4 := hb4.size
      replace rd := (rd.below hb4).more hs4
      have pX4 := pX.below hb4 pX.lt
      have hB4 := hB3.trans (hb4.mono hB3.size)
      clear own4 hb4 pX hB3 hs4
      have c0 : w4.cell? ⟨xb, 0, none⟩ = some (.int .i64 xf) := pX4.cell 0
      have c1 : w4.cell? ⟨xb, 1, none⟩ = some (.int .i64 xt) := pX4.cell 1
      have c3 : w4.cell? ⟨xb, 3, none⟩ = some (.bool false) := pX4.cell 3
      have c2x : w4.cell? ⟨xb, 2, none⟩ = some (.int .i64 xp) := pX4.cell 2
      have cz := pX4.lt
      have CB4 := CB w4 B c2 rdB hBn
      clear CB hBn
      go_wp2_with fail
      refine CB4.mono ?_
      rintro e w5 ⟨B5, c5, rfl, -, hb5⟩
      clear CB4 c0 c1 c2x c3 cz
      have hs5 := hb5.size
      replace rd := (rd.below hb5).more hs5
      replace rdB := (rdB.below hb5).more hs5
      have pX5 := pX4.below hb5 pX4.lt
      have hB5 := hB4.trans (hb5.mono hB4.size)
      clear hb5 pX4 hB4 hs5
      obtain ⟨S, hSd⟩ : ∃ S : World → Prop, S = fun v => Below w5.heap.size w5 v := ⟨_, rfl⟩
      have hkeep : ∀ (u u' : World), S u → Below u.heap.size u u' → S u' := by
        intro u u' hu hb
        rw [hSd] at hu ⊢
        exact Below.trans hu (hb.mono hu.size)
      have hSend : ∀ u, S u → Below w5.heap.size w5 u := by intro u hu; rw [hSd] at hu; exact hu
      have hS0 : S w5.drew := by rw [hSd]; exact Below.drew (Below.refl _ _)
      have hne0 : Nonempty (InClass S) := ⟨⟨_, hS0⟩⟩
      clear hSd
      have kcell : ∀ (x : InClass S) (p : Addr) (v : Value), p.block < w5.heap.size → w5.cell? p = some v → x.w.cell? p = some v := fun x p v hp hv => ((hSend _ x.h).cell hp).trans hv
      have k0 : ∀ x : InClass S, x.w.cell? ⟨xb, 0, none⟩ = some (.int .i64 xf) := fun x => kcell x _ _ pX5.lt (pX5.cell 0)
      have k1 : ∀ x : InClass S, x.w.cell? ⟨xb, 1, none⟩ = some (.int .i64 xt) := fun x => kcell x _ _ pX5.lt (pX5.cell 1)
      have k2 : ∀ x : InClass S, x.w.cell? ⟨xb, 2, none⟩ = some (.int .i64 xp) := fun x => kcell x _ _ pX5.lt (pX5.cell 2)
      have rdX : ∀ x : InClass S, RdSp x.w x.w.heap.size C k L := fun x => (rd.below (hSend _ x.h)).more (hSend _ x.h).size
      have rdY : ∀ x : InClass S, RdSp x.w x.w.heap.size B (k + 1) M := fun x => (rdB.below (hSend _ x.h)).more (hSend _ x.h).size
      clear kcell pX5 rd rdB
      go_upto_region 8 with fail
      refine wp_region_class (S := S) (by kernel_rfl) (by kernel_rfl) hS0 ?_
      try simp only [List.append_eq, List.cons_append, List.nil_append]
      repeat (go_big_quiet_step (first | (go_at_call 19; exact class_call (CS _ _ _ (rdY _)) hkeep) | (go_at_call 31; exact class_call (CI _ _ _ (rdY _)) hkeep) | (go_at_call 32; exact class_call (CL _ (rdX _)) hkeep)))
      refine wpQuiet_nil ?_
      rintro w6 ⟨x6, hx6⟩
      have hS6 := hSend w6 (by rw [hx6]; exact x6.h)
      clear hx6 x6 k0 k1 k2 rdX rdY
      go_wp2_with fail
      go_ret
      exact ⟨by simp, hB5.trans (hS6.mono hB5.size)⟩
end Go.Proofs.Ytmbmpogdakoloaa
