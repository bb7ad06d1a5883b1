/- The law of a drawn figure. No conditions. -/
import Derived.Test.YtjnckhdmaebfdaaBookD
import Derived.Test.YtjnckhdmaebfdaaDrawV
import Derived.Test.YtjnckhdmaebfdaaFig
namespace Go.Proofs.Ytjnckhdmaebfdaa
open Go.RowKit

set_option maxRecDepth 8000 in
set_option maxHeartbeats 3200000 in
theorem walkFigures (A : Option Addr) (n c : Nat) (w : World) (hb : Bys w w.heap.size A n) :
    Calls Try.prog 13 #[.slice A n c] w fun e w' => e = .returned (.bool true) ∧ Below w.heap.size w w' := by
  have hn := hb.1
  by_cases hbig : (1048576 : Int) < n
  · have hd : decide ((1048576 : Int) < n) = true := by simpa using hbig
    go_enter Try.func13, Try.ntmps13
    go_wp2_with fail
    refine (lBig _ _ _ _ (by omega)).mono ?_
    rintro e w' ⟨rfl, rfl⟩
    go_wp2_with fail
    go_ret
    exact ⟨rfl, Below.refl _ _⟩
  · have hbg : decide ((1048576 : Int) < n) = false := by simpa using hbig
    go_enter Try.func13, Try.ntmps13
    go_wp2_with fail
    refine (lBig _ _ _ _ (by omega)).mono ?_
    rintro e w' ⟨rfl, rfl⟩
    go_wp2_with fail
    refine (sDrawBookR _ _ _ _ hb).mono ?_
    rintro e w1 ⟨m, R, D, cd, mo, nm, rfl, hq, hmc, hcx, rd, hb1⟩
    have hs1 := hb1.size
    obtain ⟨j, hj⟩ := hq.best
    have hjm := ruBest_lt hj
    have hjm2 : (j : Int) < m := by omega
    have hnm := fig_n hq.1 j hjm
    have hX : ruleForL m R nm mo 0 = (j : Int) := by rw [ruleForL, if_pos hq.1, hj]; rfl
    have HQn := Lib.hid hq.n
    have hx1 : Below w1.heap.size w1 (w1.alloc (.cells #[.slice D m cd] 37)) := (by (repeat (first | (with_reducible exact Below.refl _ _) | (with_reducible assumption) | (with_reducible refine Below.drew ?_) | (with_reducible refine below_drewN ?_ _) | ((with_reducible refine Below.setCell ?_ ?_ _); rotate_left; focus (first | (simp; done) | omega | (simp; omega))) | ((with_reducible refine Below.alloc ?_ ?_ _); rotate_left; focus (first | exact Nat.le_refl _ | omega | (simp; done) | (simp; omega))))))
    have hy1 := hx1.size
    replace rd := (rd.below hx1).more hy1
    have hA1 : Below w.heap.size w (w1.alloc (.cells #[.slice D m cd] 37)) := hb1.trans (hx1.mono hb1.size)
    have pK : Whole (w1.alloc (.cells #[.slice D m cd] 37)) (w1.heap.size) 37 #[.slice D m cd] := (Whole.new w1 37 #[.slice D m cd])
    obtain ⟨b1a, hbq1a⟩ : ∃ b, b = w1.heap.size := ⟨_, rfl⟩
    obtain ⟨u1, hu1⟩ : ∃ u, u = (w1.alloc (.cells #[.slice D m cd] 37)) := ⟨_, rfl⟩
    rw [← hu1] at rd pK hA1 hy1
    rw [← hbq1a] at pK
    clear hx1
    go_upto_region 4 with fail
    rw [← hu1]
    rw [← hbq1a]
    clear hu1 hbq1a
    have pKq0 : u1.cell? ⟨b1a, 0, none⟩ = some (.slice D m cd) := pK.cell 0
    have pKz := pK.lt
    go_wp2_with fail
    refine (sDrawFormula u1 A n c (bys_up (hb.below hA1) hA1.size)).mono ?_
    rintro e w2 ⟨n2, E, ce, N2, VA, vc, V, rfl, -, -, -, -, -, rdV, hb2⟩
    clear pKq0 pKz
    have hs2 := hb2.size
    replace pK := pK.below hb2 pK.lt
    replace rd := (rd.below hb2).more hs2
    have hB2 : Below w.heap.size w w2 := hA1.trans (hb2.mono hA1.size)
    have hfig : figT m R nm mo 0 8 V = (match evOne (R j).n 8 (R j).N V with | none => none | some x => match roundL x.1 x.2 (R j).s.mo with | none => none | some z => some (z, (j : Int))) := by rw [figT, if_pos hq.1, hj]; rfl
    have C1 := fun (v : World) (hv : RdRu v v.heap.size D m R) (h2 : RdFr v v.heap.size VA 8 V) => iFigure v D m cd R nm mo 0 VA 8 vc V hv hmc hcx HQn.out h2
    have C2 := fun (v : World) (hv : RdRu v v.heap.size D m R) => sRuleFor v D m cd R nm mo 0 hv hmc hcx HQn.out
    have C3 := fun (v : World) (h1 : RdNo v v.heap.size (R j).A (R j).n (R j).N) (h2 : RdFr v v.heap.size VA 8 V) => sEval v (R j).A VA (R j).n (R j).c 8 vc (R j).N V h1 h2 (by omega)
    rw [hX] at C2
    rw [hfig] at C1
    clear hX hfig hj hb
    cases hr : evOne (R j).n 8 (R j).N V with
    | none =>
      simp only [hr, vOpt, oN_none, oD_none, oB_none] at C1 C3
      simp only [figV, Option.isSome] at C1
      clear hr hq hnm
      have pKq0 : w2.cell? ⟨b1a, 0, none⟩ = some (.slice D m cd) := pK.cell 0
      have pKz := pK.lt
      go_wp2_with fail
      refine (C1 w2 rd rdV).mono ?_
      rintro e w3 ⟨rfl, hb3⟩
      clear pKq0 pKz
      have hs3 := hb3.size
      replace pK := pK.below hb3 pK.lt
      replace rd := (rd.below hb3).more hs3
      replace rdV := (rdV.below hb3).more hs3
      have hB3 : Below w.heap.size w w3 := hB2.trans (hb3.mono hB2.size)
      clear C1
      have pKq0 : w3.cell? ⟨b1a, 0, none⟩ = some (.slice D m cd) := pK.cell 0
      have pKz := pK.lt
      go_wp2_with fail
      refine (C2 w3 rd).mono ?_
      rintro e w4 ⟨rfl, hb4⟩
      clear pKq0 pKz
      have hs4 := hb4.size
      replace pK := pK.below hb4 pK.lt
      replace rd := (rd.below hb4).more hs4
      replace rdV := (rdV.below hb4).more hs4
      have hB4 : Below w.heap.size w w4 := hB3.trans (hb4.mono hB3.size)
      clear C2
      have hjn : ¬ (j : Int) < 0 := by omega
      obtain ⟨⟨b, off, rfl, hbb, r0, r1, r2, r3, r4, r5, r6⟩, rn⟩ := rd.2 j hjm
      clear r0 r1 r2 r3 r4
      have pKq0 : w4.cell? ⟨b1a, 0, none⟩ = some (.slice (some ⟨b, off, none⟩) m cd) := pK.cell 0
      have pKz := pK.lt
      go_wp2_with fail
      refine (C3 w4 rn rdV).mono ?_
      rintro e w5 ⟨rfl, hb5⟩
      clear pKq0 pKz
      have hs5 := hb5.size
      replace pK := pK.below hb5 pK.lt
      replace rdV := (rdV.below hb5).more hs5
      have hB5 : Below w.heap.size w w5 := hB4.trans (hb5.mono hB4.size)
      have r5n : w5.cell? ⟨b, off + j * 7 + 5, none⟩ = some (.int .i64 (R j).s.mo) := (hb5.cell (p := ⟨b, off + j * 7 + 5, none⟩) hbb).trans r5
      have hbb2 : b < w5.heap.size := by omega
      clear r5 r6 rn C3 hbb
      have pKq0 : w5.cell? ⟨b1a, 0, none⟩ = some (.slice (some ⟨b, off, none⟩) m cd) := pK.cell 0
      have pKz := pK.lt
      go_wp2_with fail
      go_ret
      exact ⟨ret_bool (by simp), hB5.alloc hB5.size _⟩
    | some y =>
      obtain ⟨z, hz⟩ := round_ok (evOne_good hr) hnm.2
      obtain ⟨kn, kd⟩ := y
      dsimp only at hz
      have RC := fun (v : World) => sRoundFrac kn kd (R j).s.mo v
      simp only [hr] at C1
      rw [hz] at C1 RC
      simp only [hr, vOpt, oN_some, oD_some, oB_some] at C3
      simp only [zN_some, zB_some] at RC
      simp only [figV, Option.isSome] at C1
      clear hr hz hq hnm
      have pKq0 : w2.cell? ⟨b1a, 0, none⟩ = some (.slice D m cd) := pK.cell 0
      have pKz := pK.lt
      go_wp2_with fail
      refine (C1 w2 rd rdV).mono ?_
      rintro e w3 ⟨rfl, hb3⟩
      clear pKq0 pKz
      have hs3 := hb3.size
      replace pK := pK.below hb3 pK.lt
      replace rd := (rd.below hb3).more hs3
      replace rdV := (rdV.below hb3).more hs3
      have hB3 : Below w.heap.size w w3 := hB2.trans (hb3.mono hB2.size)
      clear C1
      have pKq0 : w3.cell? ⟨b1a, 0, none⟩ = some (.slice D m cd) := pK.cell 0
      have pKz := pK.lt
      go_wp2_with fail
      refine (C2 w3 rd).mono ?_
      rintro e w4 ⟨rfl, hb4⟩
      clear pKq0 pKz
      have hs4 := hb4.size
      replace pK := pK.below hb4 pK.lt
      replace rd := (rd.below hb4).more hs4
      replace rdV := (rdV.below hb4).more hs4
      have hB4 : Below w.heap.size w w4 := hB3.trans (hb4.mono hB3.size)
      clear C2
      have hjn : ¬ (j : Int) < 0 := by omega
      obtain ⟨⟨b, off, rfl, hbb, r0, r1, r2, r3, r4, r5, r6⟩, rn⟩ := rd.2 j hjm
      clear r0 r1 r2 r3 r4
      have pKq0 : w4.cell? ⟨b1a, 0, none⟩ = some (.slice (some ⟨b, off, none⟩) m cd) := pK.cell 0
      have pKz := pK.lt
      go_wp2_with fail
      refine (C3 w4 rn rdV).mono ?_
      rintro e w5 ⟨rfl, hb5⟩
      clear pKq0 pKz
      have hs5 := hb5.size
      replace pK := pK.below hb5 pK.lt
      replace rdV := (rdV.below hb5).more hs5
      have hB5 : Below w.heap.size w w5 := hB4.trans (hb5.mono hB4.size)
      have r5n : w5.cell? ⟨b, off + j * 7 + 5, none⟩ = some (.int .i64 (R j).s.mo) := (hb5.cell (p := ⟨b, off + j * 7 + 5, none⟩) hbb).trans r5
      have hbb2 : b < w5.heap.size := by omega
      clear r5 r6 rn C3 hbb
      have r5k := r5n
      have hx5 : Below w5.heap.size w5 (w5.alloc (.cells #[.int .i64 kn, .int .i64 kd] 63)) := (by (repeat (first | (with_reducible exact Below.refl _ _) | (with_reducible assumption) | (with_reducible refine Below.drew ?_) | (with_reducible refine below_drewN ?_ _) | ((with_reducible refine Below.setCell ?_ ?_ _); rotate_left; focus (first | (simp; done) | omega | (simp; omega))) | ((with_reducible refine Below.alloc ?_ ?_ _); rotate_left; focus (first | exact Nat.le_refl _ | omega | (simp; done) | (simp; omega))))))
      have hy5 := hx5.size
      replace r5n := (hx5.cell (p := ⟨b, off + j * 7 + 5, none⟩) hbb2).trans r5n
      replace pK := pK.below hx5 pK.lt
      replace rdV := (rdV.below hx5).more hy5
      have hA5 : Below w.heap.size w (w5.alloc (.cells #[.int .i64 kn, .int .i64 kd] 63)) := hB5.trans (hx5.mono hB5.size)
      have pX : Whole (w5.alloc (.cells #[.int .i64 kn, .int .i64 kd] 63)) (w5.heap.size) 63 #[.int .i64 kn, .int .i64 kd] := (Whole.new w5 63 #[.int .i64 kn, .int .i64 kd])
      obtain ⟨b5a, hbq5a⟩ : ∃ b, b = w5.heap.size := ⟨_, rfl⟩
      obtain ⟨u5, hu5⟩ : ∃ u, u = (w5.alloc (.cells #[.int .i64 kn, .int .i64 kd] 63)) := ⟨_, rfl⟩
      rw [← hu5] at pK rdV pX hA5 hy5 r5n
      rw [← hbq5a] at pX
      clear hx5
      go_upto_region 10 with fail
      rw [← hu5]
      rw [← hbq5a]
      clear hu5 hbq5a
      clear r5k
      have hbb3 : b < u5.heap.size := by omega
      obtain ⟨S, hSd⟩ : ∃ S : World → Prop, S = fun v => Below u5.heap.size u5 v := ⟨_, rfl⟩
      have hS0 : S u5.drew := by rw [hSd]; exact Below.drew (Below.refl _ _)
      have hkeep : ∀ (u u' : World), S u → Below u.heap.size u u' → S u' := by
        intro u u' hu hb
        rw [hSd] at hu ⊢
        exact Below.trans hu (hb.mono hu.size)
      have hSend : ∀ u, S u → Below u5.heap.size u5 u := by intro u hu; rw [hSd] at hu; exact hu
      have hne0 : Nonempty (InClass S) := ⟨⟨_, hS0⟩⟩
      clear hSd
      have kcell : ∀ (x : InClass S) (p : Addr) (v : Value), p.block < u5.heap.size → u5.cell? p = some v → x.w.cell? p = some v := fun x p v hp hv => ((hSend _ x.h).cell hp).trans hv
      have k0 : ∀ x : InClass S, x.w.cell? ⟨b5a, 0, none⟩ = some (.int .i64 kn) := fun x => kcell x _ _ pX.lt (pX.cell 0)
      have k1 : ∀ x : InClass S, x.w.cell? ⟨b5a, 1, none⟩ = some (.int .i64 kd) := fun x => kcell x _ _ pX.lt (pX.cell 1)
      have k2 : ∀ x : InClass S, x.w.cell? ⟨b1a, 0, none⟩ = some (.slice (some ⟨b, off, none⟩) m cd) := fun x => kcell x _ _ pK.lt (pK.cell 0)
      have k3 : ∀ x : InClass S, x.w.cell? ⟨b, off + j * 7 + 5, none⟩ = some (.int .i64 (R j).s.mo) := fun x => kcell x _ _ (show b < _ by omega) r5n
      clear kcell
      refine wp_region_class (S := S) (by kernel_rfl) (by kernel_rfl) hS0 ?_
      repeat (go_big_quiet_step ((go_at_call 45; exact class_call (RC _) hkeep)))
      refine wpQuiet_nil ?_
      rintro w5 ⟨x5, hx5⟩
      have hS5 := hSend w5 (by rw [hx5]; exact x5.h)
      clear hx5 x5
      go_wp2_with fail
      go_ret
      exact ⟨ret_bool (by simp), hA5.trans (hS5.mono hA5.size)⟩
end Go.Proofs.Ytjnckhdmaebfdaa
