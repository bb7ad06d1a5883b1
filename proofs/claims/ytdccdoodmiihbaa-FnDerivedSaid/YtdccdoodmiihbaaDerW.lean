/- The law of a drawn formula: all values follow from the previous ones. No conditions. -/
import Derived.Test.YtdccdoodmiihbaaDrawV
import Derived.Test.YtdccdoodmiihbaaEvalO
import Derived.Deep.Cut
import Derived.BigQuiet
import Derived.Test.YtdccdoodmiihbaaKlass
import Derived.Test.YtdccdoodmiihbaaEvNode
namespace Go.Proofs.Ytdccdoodmiihbaa
open Go.RowKit

set_option linter.unusedVariables false
theorem cmpL_self {a : Fr} (h : fracOkL a = true) : cmpL a a = 0 := by
  rw [cmpL, if_pos (by rw [h]; rfl)]
  simp
theorem der7 {s : No} {K V : Nat → Fr} {x : Fr} (h7 : s.k = 7) (h : nodeV s K V = some x) (ha : fracOkL (K s.a.toNat) = true) (hb : fracOkL (K s.b.toNat) = true) : ¬ 0 < cmpL x (K s.a.toNat) ∧ ¬ 0 < cmpL x (K s.b.toNat) := by
  unfold nodeV at h
  simp only [h7] at h
  have hs := cmpL_swap ha hb
  by_cases hc : cmpL (K s.a.toNat) (K s.b.toNat) ≤ 0
  · simp [hc] at h
    rw [← h, cmpL_self ha]
    exact ⟨by omega, by omega⟩
  · simp [hc] at h
    rw [← h, cmpL_self hb]
    refine ⟨fun hp => hc (hs.2.1 hp), by omega⟩
theorem der8 {s : No} {K V : Nat → Fr} {x : Fr} (h8 : s.k = 8) (h : nodeV s K V = some x) (ha : fracOkL (K s.a.toNat) = true) (hb : fracOkL (K s.b.toNat) = true) : ¬ cmpL x (K s.a.toNat) < 0 ∧ ¬ cmpL x (K s.b.toNat) < 0 := by
  unfold nodeV at h
  simp only [h8] at h
  have hs := cmpL_swap ha hb
  by_cases hc : cmpL (K s.a.toNat) (K s.b.toNat) ≤ 0
  · simp [hc] at h
    rw [← h, cmpL_self hb]
    exact ⟨hs.1.1 hc, by omega⟩
  · simp [hc] at h
    rw [← h, cmpL_self ha]
    exact ⟨by omega, by omega⟩
theorem RdFr.cells {w : World} {B n b off : Nat} {K : Nat → Fr} (h : RdFr w B (some ⟨b, off, none⟩) n K) (i : Nat) (hi : i < n) : b < B ∧ w.cell? ⟨b, off + i * 2, none⟩ = some (.int .i64 (K i).1) ∧ w.cell? ⟨b, off + i * 2 + 1, none⟩ = some (.int .i64 (K i).2) := by
  obtain ⟨b', off', e, hb, hc, hd⟩ := h.2 i hi
  injection e with e
  injection e with e1 e2
  subst e1 e2
  exact ⟨hb, hc, hd⟩

set_option maxRecDepth 8000 in
set_option maxHeartbeats 25600000 in
theorem walkDerived (A : Option Addr) (n c : Nat) (w : World) (hb : Bys w w.heap.size A n) :
    Calls Try.prog 5 #[.slice A n c] w fun e w' => e = .returned (.bool true) ∧ Below w.heap.size w w' := by
  have hn := hb.1
  by_cases hbig : (1048576 : Int) < n
  · have hd : decide ((1048576 : Int) < n) = true := by simpa using hbig
    go_enter Try.func5, Try.ntmps5
    go_wp2_with fail
    refine (lBig _ _ _ _ (by omega)).mono ?_
    rintro e w' ⟨rfl, rfl⟩
    go_wp2_with fail
    go_ret
    exact ⟨rfl, Below.refl _ _⟩
  · have hbg : decide ((1048576 : Int) < n) = false := by simpa using hbig
    go_enter Try.func5, Try.ntmps5
    go_wp2_with fail
    refine (lBig _ _ _ _ (by omega)).mono ?_
    rintro e w' ⟨rfl, rfl⟩
    go_wp2_with fail
    refine (sDrawFormula _ _ _ _ hb).mono ?_
    rintro e w1 ⟨n1, D, cd, N, VA, vc, V, rfl, hn1, hn9, hf, hvg, rdN, rdV, hb1⟩
    have hs1 := hb1.size
    have hvs : varsB V 8 = true := by rw [varsB, allUp_mk (P := fun i => fracOkL (V i)) hvg]; rfl
    have e0 : evAll n1 8 N V = evF N V n1 := by rw [evAll, if_pos (by simp [hf, hvs])]
    have HFB := Lib.hid hf
    have C1 := fun (v : World) (h1 : RdNo v v.heap.size D n1 N) (h2 : RdFr v v.heap.size VA 8 V) => iEvalAll v D VA n1 cd 8 vc N V h1 h2 (by omega)
    have C2 := fun (v : World) (h1 : RdNo v v.heap.size D n1 N) (h2 : RdFr v v.heap.size VA 8 V) => iEval v D VA n1 cd 8 vc N V h1 h2 (by omega)
    have C3 := fun (v : World) (h1 : RdNo v v.heap.size D n1 N) (h2 : RdFr v v.heap.size VA 8 V) => sEvalAll v D VA n1 cd 8 vc N V h1 h2 (by omega)
    rw [evOne] at C2
    rw [e0] at C1 C2 C3
    clear e0
    cases hr : evF N V n1 with
    | none =>
      simp only [hr, Option.map_none, vOpt, oN_none, oD_none, oB_none] at C1 C2 C3
      clear hr hf hvg hvs HFB hb
      go_wp2_with fail
      refine (C1 w1 rdN rdV).mono ?_
      intro e w2 hh
      obtain ⟨B, cc, rfl, -, hb2⟩ := hh.inv_no
      clear hh
      have hs2 := hb2.size
      replace rdN := (rdN.below hb2).more hs2
      replace rdV := (rdV.below hb2).more hs2
      have hB2 : Below w.heap.size w w2 := hb1.trans (hb2.mono hb1.size)
      go_wp2_with fail
      refine (C2 w2 rdN rdV).mono ?_
      rintro e w3 ⟨rfl, hb3⟩
      have hs3 := hb3.size
      replace rdN := (rdN.below hb3).more hs3
      replace rdV := (rdV.below hb3).more hs3
      have hB3 : Below w.heap.size w w3 := hB2.trans (hb3.mono hB2.size)
      have hx3 : Below w3.heap.size w3 (w3.alloc (.cells #[.int .i64 0, .int .i64 0] 39)) := (by (repeat (first | (with_reducible exact Below.refl _ _) | (with_reducible assumption) | (with_reducible refine Below.drew ?_) | (with_reducible refine below_drewN ?_ _) | ((with_reducible refine Below.setCell ?_ ?_ _); rotate_left; focus (first | (simp; done) | omega | (simp; omega))) | ((with_reducible refine Below.alloc ?_ ?_ _); rotate_left; focus (first | exact Nat.le_refl _ | omega | (simp; done) | (simp; omega))))))
      have hy3 := hx3.size
      replace rdN := (rdN.below hx3).more hy3
      replace rdV := (rdV.below hx3).more hy3
      have hA3 : Below w.heap.size w (w3.alloc (.cells #[.int .i64 0, .int .i64 0] 39)) := hB3.trans (hx3.mono hB3.size)
      have pX : Whole (w3.alloc (.cells #[.int .i64 0, .int .i64 0] 39)) (w3.heap.size) 39 #[.int .i64 0, .int .i64 0] := (Whole.new w3 39 #[.int .i64 0, .int .i64 0])
      obtain ⟨b3a, hbq3a⟩ : ∃ b, b = w3.heap.size := ⟨_, rfl⟩
      obtain ⟨u3, hu3⟩ : ∃ u, u = (w3.alloc (.cells #[.int .i64 0, .int .i64 0] 39)) := ⟨_, rfl⟩
      rw [← hu3] at rdN rdV pX hA3 hy3
      rw [← hbq3a] at pX
      clear hx3
      go_upto_region 6 with fail
      rw [← hu3]
      rw [← hbq3a]
      clear hu3 hbq3a
      have pXq0 : u3.cell? ⟨b3a, 0, none⟩ = some (.int .i64 0) := pX.cell 0
      have pXq1 : u3.cell? ⟨b3a, 1, none⟩ = some (.int .i64 0) := pX.cell 1
      have pXz := pX.lt
      go_wp2_with fail
      refine (C3 u3 rdN rdV).mono ?_
      intro e w4 hh
      obtain ⟨B3, cc3, rfl, -, hb4⟩ := hh.inv_no
      clear hh
      clear pXq0 pXq1 pXz
      have hs4 := hb4.size
      replace pX := pX.below hb4 pX.lt
      replace rdN := (rdN.below hb4).more hs4
      replace rdV := (rdV.below hb4).more hs4
      have hB4 : Below w.heap.size w w4 := hA3.trans (hb4.mono hA3.size)
      go_wp2_with fail
      go_ret
      exact ⟨ret_bool (by simp), hB4⟩
    | some K =>
      have HG := Lib.hid (evF_good (formB_at hf) (varsB_at hvs) (Nat.le_refl _) hr)
      have HD := Lib.hid (evF_node (formB_at hf) hr)
      have HNB := Lib.hid (formB_at hf)
      obtain ⟨p0, rfl⟩ : ∃ p, n1 = p + 1 := ⟨n1 - 1, by omega⟩
      obtain ⟨⟨kn, kd⟩, hk⟩ : ∃ v, v = K p0 := ⟨_, rfl⟩
      have hk2 : K (p0 + 1 - 1) = (kn, kd) := hk.symm
      simp only [hr, Option.map_some, hk2, vOpt, oN_some, oD_some, oB_some] at C1 C2 C3
      have HK := Lib.hid hk
      clear hr hf hvg hvs hb hk hk2
      go_wp2_with fail
      refine (C1 w1 rdN rdV).mono ?_
      intro e w2 hh
      obtain ⟨B, cc, rfl, own, hb2⟩ := hh.inv_yes
      have rdK := RdFr.own own
      clear hh own
      have hs2 := hb2.size
      replace rdN := (rdN.below hb2).more hs2
      replace rdV := (rdV.below hb2).more hs2
      have hB2 : Below w.heap.size w w2 := hb1.trans (hb2.mono hb1.size)
      go_wp2_with fail
      refine (C2 w2 rdN rdV).mono ?_
      rintro e w3 ⟨rfl, hb3⟩
      have hs3 := hb3.size
      replace rdN := (rdN.below hb3).more hs3
      replace rdV := (rdV.below hb3).more hs3
      replace rdK := (rdK.below hb3).more hs3
      have hB3 : Below w.heap.size w w3 := hB2.trans (hb3.mono hB2.size)
      have hx3 : Below w3.heap.size w3 (w3.alloc (.cells #[.int .i64 kn, .int .i64 kd] 39)) := (by (repeat (first | (with_reducible exact Below.refl _ _) | (with_reducible assumption) | (with_reducible refine Below.drew ?_) | (with_reducible refine below_drewN ?_ _) | ((with_reducible refine Below.setCell ?_ ?_ _); rotate_left; focus (first | (simp; done) | omega | (simp; omega))) | ((with_reducible refine Below.alloc ?_ ?_ _); rotate_left; focus (first | exact Nat.le_refl _ | omega | (simp; done) | (simp; omega))))))
      have hy3 := hx3.size
      replace rdN := (rdN.below hx3).more hy3
      replace rdV := (rdV.below hx3).more hy3
      replace rdK := (rdK.below hx3).more hy3
      have hA3 : Below w.heap.size w (w3.alloc (.cells #[.int .i64 kn, .int .i64 kd] 39)) := hB3.trans (hx3.mono hB3.size)
      have pX : Whole (w3.alloc (.cells #[.int .i64 kn, .int .i64 kd] 39)) (w3.heap.size) 39 #[.int .i64 kn, .int .i64 kd] := (Whole.new w3 39 #[.int .i64 kn, .int .i64 kd])
      obtain ⟨b3a, hbq3a⟩ : ∃ b, b = w3.heap.size := ⟨_, rfl⟩
      obtain ⟨u3, hu3⟩ : ∃ u, u = (w3.alloc (.cells #[.int .i64 kn, .int .i64 kd] 39)) := ⟨_, rfl⟩
      rw [← hu3] at rdN rdV rdK pX hA3 hy3
      rw [← hbq3a] at pX
      clear hx3
      go_upto_region 6 with fail
      rw [← hu3]
      rw [← hbq3a]
      clear hu3 hbq3a
      have pXq0 : u3.cell? ⟨b3a, 0, none⟩ = some (.int .i64 kn) := pX.cell 0
      have pXq1 : u3.cell? ⟨b3a, 1, none⟩ = some (.int .i64 kd) := pX.cell 1
      have pXz := pX.lt
      go_wp2_with fail
      refine (C3 u3 rdN rdV).mono ?_
      intro e w4 hh
      obtain ⟨B3, cc3, rfl, -, hb4⟩ := hh.inv_yes
      clear hh
      clear pXq0 pXq1 pXz
      have hs4 := hb4.size
      replace pX := pX.below hb4 pX.lt
      replace rdN := (rdN.below hb4).more hs4
      replace rdV := (rdV.below hb4).more hs4
      replace rdK := (rdK.below hb4).more hs4
      have hB4 : Below w.heap.size w w4 := hA3.trans (hb4.mono hA3.size)
      obtain ⟨kb, koff, rfl, hkb, kc0, kc1⟩ := rdK.2 p0 (by omega)
      rw [← HK.out] at kc0 kc1
      dsimp only at kc0 kc1
      have e1 : IntKind.i64.wrap ((p0 : Int) + 1 - 1) = p0 := by rw [show (p0 : Int) + 1 - 1 = p0 by omega]; exact IntWalk.i64_in _ ⟨by omega, by omega⟩
      clear C1 C2 C3
      have pXq0 : w4.cell? ⟨b3a, 0, none⟩ = some (.int .i64 kn) := pX.cell 0
      have pXq1 : w4.cell? ⟨b3a, 1, none⟩ = some (.int .i64 kd) := pX.cell 1
      have pXz := pX.lt
      go_wp2_with fail
      go_quiet (fail)
      clear pXq0 pXq1 pXz
      clear kc0 kc1 pX e1
      obtain ⟨wo, hwo⟩ : ∃ wo, wo = w4.drewN nq := ⟨_, rfl⟩
      have rdNo : RdNo wo wo.heap.size D (p0 + 1) N := by rw [hwo]; exact rdN
      have rdVo : RdFr wo wo.heap.size VA 8 V := by rw [hwo]; exact rdV
      have rdKo : RdFr wo wo.heap.size (some ⟨kb, koff, none⟩) (p0 + 1) K := by rw [hwo]; exact rdK
      have hBo : Below w.heap.size w wo := by rw [hwo]; exact below_drewN hB4 _
      clear rdN rdV rdK
      go_upto_region 12 with fail
      rw [← hwo]
      clear hwo
      go_loopw [11] (fun i wr => ∃ k : Nat, k ≤ p0 + 1 ∧ i = .int .i64 k ∧ Below wo.heap.size wo wr) (fun i _ => p0 + 1 - (intOf i).toNat)
      case atStart => exact ⟨0, Nat.zero_le _, rfl, Below.refl _ _⟩
      case round =>
        obtain ⟨k, hk, rfl, hbr⟩ := hrel
        have hs0 := hbr.size
        by_cases hlt : k < p0 + 1
        · have hnb := nodeB_parts (HNB.out k hlt)
          have hnd := HD.out k hlt
          have hgd := HG.out
          have hlt2 : (k : Int) < (p0 : Int) + 1 := by omega
          obtain ⟨b, off, rfl, hbB, g0, g1, g2, g3, g4, g5⟩ := (rdNo.below hbr).2 k hlt
          have hkc := (rdKo.below hbr).cells k hlt
          obtain ⟨hkb2, c0, c1⟩ := hkc
          have hne : ¬ b = wr.heap.size := by omega
          have hne2 : ¬ kb = wr.heap.size := by omega
          obtain ⟨s, hs⟩ : ∃ s, s = N k := ⟨_, rfl⟩
          rw [← hs] at g0 g1 g2 g3 g4 g5 hnb hnd
          clear hs
          obtain ⟨wN, hwN⟩ : ∃ v, v = wr.alloc (.cells #[.int .i64 s.k, .int .i64 s.a, .int .i64 s.b, .int .i64 s.c, .int .i64 s.p, .int .i64 s.q] 45) := ⟨_, rfl⟩
          have hbN : Below wo.heap.size wo wN := by rw [hwN]; exact hbr.alloc hs0 _
          have pN : Whole wN wr.heap.size 45 #[.int .i64 s.k, .int .i64 s.a, .int .i64 s.b, .int .i64 s.c, .int .i64 s.p, .int .i64 s.q] := by rw [hwN]; exact Whole.new _ _ _
          obtain ⟨bn, hbn⟩ : ∃ v, v = wr.heap.size := ⟨_, rfl⟩
          rw [← hbn] at pN
          have hzN := hbN.size
          go_upto_region 15 with fail
          rw [← hwN]
          rw [← hbn]
          clear hwN hbn hne hne2 c0 c1 g0 g1 g2 g3 g4 g5 hbr hs0
          obtain ⟨S, hSd⟩ : ∃ S : World → Prop, S = fun v => Below wN.heap.size wN v := ⟨_, rfl⟩
          have hS0 : S wN.drew := by rw [hSd]; exact Below.drew (Below.refl _ _)
          have hkeep : ∀ (u u' : World), S u → Below u.heap.size u u' → S u' := by
            intro u u' hu hb
            rw [hSd] at hu ⊢
            exact Below.trans hu (hb.mono hu.size)
          have hSend : ∀ u, S u → Below wN.heap.size wN u := by intro u hu; rw [hSd] at hu; exact hu
          have hne0 : Nonempty (InClass S) := ⟨⟨_, hS0⟩⟩
          clear hSd
          have kcell : ∀ (x : InClass S) (p : Addr) (v : Value), p.block < wN.heap.size → wN.cell? p = some v → x.w.cell? p = some v := fun x p v hp hv => ((hSend _ x.h).cell hp).trans hv
          obtain ⟨hkl, c0, c1⟩ := (rdKo.below hbN).cells k hlt
          refine wp_region_class (S := S) (by kernel_rfl) (by kernel_rfl) hS0 ?_
          simp only [List.append_eq, List.cons_append, List.nil_append]
          by_cases k1 : s.k = 1
          · as_aux_lemma =>
              have hx : (s.p, s.q) = K k := by rw [nodeV, if_pos k1] at hnd; injection hnd
              rw [← hx] at c0 c1
              dsimp only at c0 c1
              have vvc0 := c0
              have vvc1 := c1
              have n0 : ∀ x : InClass S, x.w.cell? ⟨bn, 0, none⟩ = some (.int .i64 s.k) := fun x => kcell x _ _ pN.lt (pN.cell 0)
              have n1 : ∀ x : InClass S, x.w.cell? ⟨bn, 1, none⟩ = some (.int .i64 s.a) := fun x => kcell x _ _ pN.lt (pN.cell 1)
              have n2 : ∀ x : InClass S, x.w.cell? ⟨bn, 2, none⟩ = some (.int .i64 s.b) := fun x => kcell x _ _ pN.lt (pN.cell 2)
              have n3 : ∀ x : InClass S, x.w.cell? ⟨bn, 3, none⟩ = some (.int .i64 s.c) := fun x => kcell x _ _ pN.lt (pN.cell 3)
              have n4 : ∀ x : InClass S, x.w.cell? ⟨bn, 4, none⟩ = some (.int .i64 s.p) := fun x => kcell x _ _ pN.lt (pN.cell 4)
              have n5 : ∀ x : InClass S, x.w.cell? ⟨bn, 5, none⟩ = some (.int .i64 s.q) := fun x => kcell x _ _ pN.lt (pN.cell 5)
              have vv0 : ∀ x : InClass S, x.w.cell? ⟨kb, koff + k * 2, none⟩ = some (.int .i64 s.p) := fun x => kcell x _ _ (show kb < _ by omega) vvc0
              have vv1 : ∀ x : InClass S, x.w.cell? ⟨kb, koff + k * 2 + 1, none⟩ = some (.int .i64 s.q) := fun x => kcell x _ _ (show kb < _ by omega) vvc1
              clear hx hnd hnb hgd c0 c1 vvc0 vvc1
              have t1 : (s.k == 1) = true := by simp; omega
              have t2 : (s.k == 2) = false := by simp; omega
              have t7 : (s.k == 7) = false := by simp; omega
              have t8 : (s.k == 8) = false := by simp; omega
              clear k1
              repeat (go_big_quiet_step (fail))
              refine wpQuiet_nil ?_
              rintro w5 ⟨x5, hx5⟩
              have hS5 := hSend w5 (by rw [hx5]; exact x5.h)
              clear hx5 x5
              go_wp2_with fail
              go_roundw
              case rel => exact ⟨k + 1, by omega, by go_num, hbN.trans (hS5.mono hzN)⟩
              case measure => simp [intOf]; omega
          · by_cases k2 : s.k = 2
            · as_aux_lemma =>
                obtain ⟨h0, h7⟩ : 0 ≤ s.a ∧ s.a ≤ 7 := by omega
                obtain ⟨p, hp⟩ := Int.eq_ofNat_of_zero_le h0
                have hx : V p = K k := by rw [nodeV, if_neg k1, if_pos k2, hp] at hnd; injection hnd
                obtain ⟨vb, voff, rfl, hvb, uuc0, uuc1⟩ := (rdVo.below hbN).2 p (by omega)
                rw [hx] at uuc0 uuc1
                have hp8 : (p : Int) < 8 := by omega
                have vvc0 := c0
                have vvc1 := c1
                have n0 : ∀ x : InClass S, x.w.cell? ⟨bn, 0, none⟩ = some (.int .i64 s.k) := fun x => kcell x _ _ pN.lt (pN.cell 0)
                have n1 : ∀ x : InClass S, x.w.cell? ⟨bn, 1, none⟩ = some (.int .i64 s.a) := fun x => kcell x _ _ pN.lt (pN.cell 1)
                have n2 : ∀ x : InClass S, x.w.cell? ⟨bn, 2, none⟩ = some (.int .i64 s.b) := fun x => kcell x _ _ pN.lt (pN.cell 2)
                have n3 : ∀ x : InClass S, x.w.cell? ⟨bn, 3, none⟩ = some (.int .i64 s.c) := fun x => kcell x _ _ pN.lt (pN.cell 3)
                have n4 : ∀ x : InClass S, x.w.cell? ⟨bn, 4, none⟩ = some (.int .i64 s.p) := fun x => kcell x _ _ pN.lt (pN.cell 4)
                have n5 : ∀ x : InClass S, x.w.cell? ⟨bn, 5, none⟩ = some (.int .i64 s.q) := fun x => kcell x _ _ pN.lt (pN.cell 5)
                have vv0 : ∀ x : InClass S, x.w.cell? ⟨kb, koff + k * 2, none⟩ = some (.int .i64 (K k).1) := fun x => kcell x _ _ (show kb < _ by omega) vvc0
                have vv1 : ∀ x : InClass S, x.w.cell? ⟨kb, koff + k * 2 + 1, none⟩ = some (.int .i64 (K k).2) := fun x => kcell x _ _ (show kb < _ by omega) vvc1
                have uu0 : ∀ x : InClass S, x.w.cell? ⟨vb, voff + p * 2, none⟩ = some (.int .i64 (K k).1) := fun x => kcell x _ _ (show vb < _ by omega) uuc0
                have uu1 : ∀ x : InClass S, x.w.cell? ⟨vb, voff + p * 2 + 1, none⟩ = some (.int .i64 (K k).2) := fun x => kcell x _ _ (show vb < _ by omega) uuc1
                rw [hp] at n1
                clear hx hnd hnb hgd hp h0 h7 c0 c1 vvc0 vvc1 uuc0 uuc1
                have t1 : (s.k == 1) = false := by simp; omega
                have t2 : (s.k == 2) = true := by simp; omega
                have t7 : (s.k == 7) = false := by simp; omega
                have t8 : (s.k == 8) = false := by simp; omega
                clear k1 k2
                repeat (go_big_quiet_step (fail))
                refine wpQuiet_nil ?_
                rintro w5 ⟨x5, hx5⟩
                have hS5 := hSend w5 (by rw [hx5]; exact x5.h)
                clear hx5 x5
                go_wp2_with fail
                go_roundw
                case rel => exact ⟨k + 1, by omega, by go_num, hbN.trans (hS5.mono hzN)⟩
                case measure => simp [intOf]; omega
            · by_cases k7 : s.k = 7
              · as_aux_lemma =>
                  obtain ⟨h0, ha, hb0, hb⟩ : 0 ≤ s.a ∧ s.a < k ∧ 0 ≤ s.b ∧ s.b < k := by omega
                  obtain ⟨p, hp⟩ := Int.eq_ofNat_of_zero_le h0
                  obtain ⟨q, hq⟩ := Int.eq_ofNat_of_zero_le hb0
                  have hx := der7 k7 hnd (hgd _ (by omega)) (hgd _ (by omega))
                  rw [hp, hq, Int.toNat_natCast, Int.toNat_natCast] at hx
                  obtain ⟨-, ppc0, ppc1⟩ := (rdKo.below hbN).cells p (by omega)
                  obtain ⟨-, qqc0, qqc1⟩ := (rdKo.below hbN).cells q (by omega)
                  have hpk : (p : Int) < (p0 : Int) + 1 := by omega
                  have hqk : (q : Int) < (p0 : Int) + 1 := by omega
                  obtain ⟨⟨kn, kd⟩, hKk⟩ : ∃ v, v = K k := ⟨_, rfl⟩
                  obtain ⟨⟨pn, pd⟩, hKp⟩ : ∃ v, v = K p := ⟨_, rfl⟩
                  obtain ⟨⟨qn, qd⟩, hKq⟩ : ∃ v, v = K q := ⟨_, rfl⟩
                  rw [← hKk] at c0 c1
                  rw [← hKp] at ppc0 ppc1
                  rw [← hKq] at qqc0 qqc1
                  rw [← hKk, ← hKp, ← hKq] at hx
                  dsimp only at c0 c1 ppc0 ppc1 qqc0 qqc1
                  clear hKk hKp hKq
                  obtain ⟨hx1, hx2⟩ := hx
                  have vvc0 := c0
                  have vvc1 := c1
                  have n0 : ∀ x : InClass S, x.w.cell? ⟨bn, 0, none⟩ = some (.int .i64 s.k) := fun x => kcell x _ _ pN.lt (pN.cell 0)
                  have n1 : ∀ x : InClass S, x.w.cell? ⟨bn, 1, none⟩ = some (.int .i64 s.a) := fun x => kcell x _ _ pN.lt (pN.cell 1)
                  have n2 : ∀ x : InClass S, x.w.cell? ⟨bn, 2, none⟩ = some (.int .i64 s.b) := fun x => kcell x _ _ pN.lt (pN.cell 2)
                  have n3 : ∀ x : InClass S, x.w.cell? ⟨bn, 3, none⟩ = some (.int .i64 s.c) := fun x => kcell x _ _ pN.lt (pN.cell 3)
                  have n4 : ∀ x : InClass S, x.w.cell? ⟨bn, 4, none⟩ = some (.int .i64 s.p) := fun x => kcell x _ _ pN.lt (pN.cell 4)
                  have n5 : ∀ x : InClass S, x.w.cell? ⟨bn, 5, none⟩ = some (.int .i64 s.q) := fun x => kcell x _ _ pN.lt (pN.cell 5)
                  have vv0 : ∀ x : InClass S, x.w.cell? ⟨kb, koff + k * 2, none⟩ = some (.int .i64 kn) := fun x => kcell x _ _ (show kb < _ by omega) vvc0
                  have vv1 : ∀ x : InClass S, x.w.cell? ⟨kb, koff + k * 2 + 1, none⟩ = some (.int .i64 kd) := fun x => kcell x _ _ (show kb < _ by omega) vvc1
                  have pp0 : ∀ x : InClass S, x.w.cell? ⟨kb, koff + p * 2, none⟩ = some (.int .i64 pn) := fun x => kcell x _ _ (show kb < _ by omega) ppc0
                  have pp1 : ∀ x : InClass S, x.w.cell? ⟨kb, koff + p * 2 + 1, none⟩ = some (.int .i64 pd) := fun x => kcell x _ _ (show kb < _ by omega) ppc1
                  have qq0 : ∀ x : InClass S, x.w.cell? ⟨kb, koff + q * 2, none⟩ = some (.int .i64 qn) := fun x => kcell x _ _ (show kb < _ by omega) qqc0
                  have qq1 : ∀ x : InClass S, x.w.cell? ⟨kb, koff + q * 2 + 1, none⟩ = some (.int .i64 qd) := fun x => kcell x _ _ (show kb < _ by omega) qqc1
                  rw [hp] at n1
                  rw [hq] at n2
                  have CF := fun (a b c d : Int) (v : World) => sFracCmp a b c d v
                  replace hx1 := decide_eq_false hx1
                  replace hx2 := decide_eq_false hx2
                  clear hnd hnb hgd hp hq h0 ha hb0 hb c0 c1 vvc0 vvc1 ppc0 ppc1 qqc0 qqc1
                  have t1 : (s.k == 1) = false := by simp; omega
                  have t2 : (s.k == 2) = false := by simp; omega
                  have t7 : (s.k == 7) = true := by simp; omega
                  have t8 : (s.k == 8) = false := by simp; omega
                  clear k1 k2 k7
                  repeat (go_big_quiet_step ((go_at_call 20; exact class_call (CF _ _ _ _ _) hkeep)))
                  refine wpQuiet_nil ?_
                  rintro w5 ⟨x5, hx5⟩
                  have hS5 := hSend w5 (by rw [hx5]; exact x5.h)
                  clear hx5 x5
                  go_wp2_with fail
                  go_roundw
                  case rel => exact ⟨k + 1, by omega, by go_num, hbN.trans (hS5.mono hzN)⟩
                  case measure => simp [intOf]; omega
              · by_cases k8 : s.k = 8
                · as_aux_lemma =>
                    obtain ⟨h0, ha, hb0, hb⟩ : 0 ≤ s.a ∧ s.a < k ∧ 0 ≤ s.b ∧ s.b < k := by omega
                    obtain ⟨p, hp⟩ := Int.eq_ofNat_of_zero_le h0
                    obtain ⟨q, hq⟩ := Int.eq_ofNat_of_zero_le hb0
                    have hx := der8 k8 hnd (hgd _ (by omega)) (hgd _ (by omega))
                    rw [hp, hq, Int.toNat_natCast, Int.toNat_natCast] at hx
                    obtain ⟨-, ppc0, ppc1⟩ := (rdKo.below hbN).cells p (by omega)
                    obtain ⟨-, qqc0, qqc1⟩ := (rdKo.below hbN).cells q (by omega)
                    have hpk : (p : Int) < (p0 : Int) + 1 := by omega
                    have hqk : (q : Int) < (p0 : Int) + 1 := by omega
                    obtain ⟨⟨kn, kd⟩, hKk⟩ : ∃ v, v = K k := ⟨_, rfl⟩
                    obtain ⟨⟨pn, pd⟩, hKp⟩ : ∃ v, v = K p := ⟨_, rfl⟩
                    obtain ⟨⟨qn, qd⟩, hKq⟩ : ∃ v, v = K q := ⟨_, rfl⟩
                    rw [← hKk] at c0 c1
                    rw [← hKp] at ppc0 ppc1
                    rw [← hKq] at qqc0 qqc1
                    rw [← hKk, ← hKp, ← hKq] at hx
                    dsimp only at c0 c1 ppc0 ppc1 qqc0 qqc1
                    clear hKk hKp hKq
                    obtain ⟨hx1, hx2⟩ := hx
                    have vvc0 := c0
                    have vvc1 := c1
                    have n0 : ∀ x : InClass S, x.w.cell? ⟨bn, 0, none⟩ = some (.int .i64 s.k) := fun x => kcell x _ _ pN.lt (pN.cell 0)
                    have n1 : ∀ x : InClass S, x.w.cell? ⟨bn, 1, none⟩ = some (.int .i64 s.a) := fun x => kcell x _ _ pN.lt (pN.cell 1)
                    have n2 : ∀ x : InClass S, x.w.cell? ⟨bn, 2, none⟩ = some (.int .i64 s.b) := fun x => kcell x _ _ pN.lt (pN.cell 2)
                    have n3 : ∀ x : InClass S, x.w.cell? ⟨bn, 3, none⟩ = some (.int .i64 s.c) := fun x => kcell x _ _ pN.lt (pN.cell 3)
                    have n4 : ∀ x : InClass S, x.w.cell? ⟨bn, 4, none⟩ = some (.int .i64 s.p) := fun x => kcell x _ _ pN.lt (pN.cell 4)
                    have n5 : ∀ x : InClass S, x.w.cell? ⟨bn, 5, none⟩ = some (.int .i64 s.q) := fun x => kcell x _ _ pN.lt (pN.cell 5)
                    have vv0 : ∀ x : InClass S, x.w.cell? ⟨kb, koff + k * 2, none⟩ = some (.int .i64 kn) := fun x => kcell x _ _ (show kb < _ by omega) vvc0
                    have vv1 : ∀ x : InClass S, x.w.cell? ⟨kb, koff + k * 2 + 1, none⟩ = some (.int .i64 kd) := fun x => kcell x _ _ (show kb < _ by omega) vvc1
                    have pp0 : ∀ x : InClass S, x.w.cell? ⟨kb, koff + p * 2, none⟩ = some (.int .i64 pn) := fun x => kcell x _ _ (show kb < _ by omega) ppc0
                    have pp1 : ∀ x : InClass S, x.w.cell? ⟨kb, koff + p * 2 + 1, none⟩ = some (.int .i64 pd) := fun x => kcell x _ _ (show kb < _ by omega) ppc1
                    have qq0 : ∀ x : InClass S, x.w.cell? ⟨kb, koff + q * 2, none⟩ = some (.int .i64 qn) := fun x => kcell x _ _ (show kb < _ by omega) qqc0
                    have qq1 : ∀ x : InClass S, x.w.cell? ⟨kb, koff + q * 2 + 1, none⟩ = some (.int .i64 qd) := fun x => kcell x _ _ (show kb < _ by omega) qqc1
                    rw [hp] at n1
                    rw [hq] at n2
                    have CF := fun (a b c d : Int) (v : World) => sFracCmp a b c d v
                    replace hx1 := decide_eq_false hx1
                    replace hx2 := decide_eq_false hx2
                    clear hnd hnb hgd hp hq h0 ha hb0 hb c0 c1 vvc0 vvc1 ppc0 ppc1 qqc0 qqc1
                    have t1 : (s.k == 1) = false := by simp; omega
                    have t2 : (s.k == 2) = false := by simp; omega
                    have t7 : (s.k == 7) = false := by simp; omega
                    have t8 : (s.k == 8) = true := by simp; omega
                    clear k1 k2 k7 k8
                    repeat (go_big_quiet_step ((go_at_call 20; exact class_call (CF _ _ _ _ _) hkeep)))
                    refine wpQuiet_nil ?_
                    rintro w5 ⟨x5, hx5⟩
                    have hS5 := hSend w5 (by rw [hx5]; exact x5.h)
                    clear hx5 x5
                    go_wp2_with fail
                    go_roundw
                    case rel => exact ⟨k + 1, by omega, by go_num, hbN.trans (hS5.mono hzN)⟩
                    case measure => simp [intOf]; omega
                · as_aux_lemma =>
                    have n0 : ∀ x : InClass S, x.w.cell? ⟨bn, 0, none⟩ = some (.int .i64 s.k) := fun x => kcell x _ _ pN.lt (pN.cell 0)
                    have n1 : ∀ x : InClass S, x.w.cell? ⟨bn, 1, none⟩ = some (.int .i64 s.a) := fun x => kcell x _ _ pN.lt (pN.cell 1)
                    have n2 : ∀ x : InClass S, x.w.cell? ⟨bn, 2, none⟩ = some (.int .i64 s.b) := fun x => kcell x _ _ pN.lt (pN.cell 2)
                    have n3 : ∀ x : InClass S, x.w.cell? ⟨bn, 3, none⟩ = some (.int .i64 s.c) := fun x => kcell x _ _ pN.lt (pN.cell 3)
                    have n4 : ∀ x : InClass S, x.w.cell? ⟨bn, 4, none⟩ = some (.int .i64 s.p) := fun x => kcell x _ _ pN.lt (pN.cell 4)
                    have n5 : ∀ x : InClass S, x.w.cell? ⟨bn, 5, none⟩ = some (.int .i64 s.q) := fun x => kcell x _ _ pN.lt (pN.cell 5)
                    have t1 : (s.k == 1) = false := by simp; omega
                    have t2 : (s.k == 2) = false := by simp; omega
                    have t7 : (s.k == 7) = false := by simp; omega
                    have t8 : (s.k == 8) = false := by simp; omega
                    clear k1 k2 k7 k8 hnd hnb hgd c0 c1
                    repeat (go_big_quiet_step (fail))
                    refine wpQuiet_nil ?_
                    rintro w5 ⟨x5, hx5⟩
                    have hS5 := hSend w5 (by rw [hx5]; exact x5.h)
                    clear hx5 x5
                    go_wp2_with fail
                    go_roundw
                    case rel => exact ⟨k + 1, by omega, by go_num, hbN.trans (hS5.mono hzN)⟩
                    case measure => simp [intOf]; omega
        · obtain rfl : k = p0 + 1 := by omega
          have FO := iFormulaOk wr D (p0 + 1) cd N ((rdNo.below hbr).more hs0) (by omega)
          rw [HFB.out] at FO
          have hBr := hBo.trans (hbr.mono hBo.size)
          go_wp2_with fail
          refine FO.mono ?_
          rintro e w13 ⟨rfl, hb13⟩
          go_wp2_with fail
          go_ret
          exact ⟨rfl, hBr.trans (hb13.mono hBr.size)⟩
end Go.Proofs.Ytdccdoodmiihbaa
