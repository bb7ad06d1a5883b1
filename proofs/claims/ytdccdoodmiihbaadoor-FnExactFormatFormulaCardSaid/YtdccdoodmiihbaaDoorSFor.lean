/- The text of a formula, by the reference. Conditions: the nodes can be read. -/
import Derived.Test.YtdccdoodmiihbaaDoorFmtF
import Derived.Test.YtdccdoodmiihbaaDoorWds
import Derived.Test.YtdccdoodmiihbaaDoorKlass
import Derived.Deep.Cut
namespace Go.Proofs.YtdccdoodmiihbaaDoor
open Go.RowKit Go.Lib
set_option linter.unusedVariables false
set_option linter.unusedSimpArgs false
set_option maxHeartbeats 1600000 in
theorem sl09Name (k : Int) (h3 : 3 ≤ k) (h9 : k ≤ 9) (w : World) :
    Calls Tryd.prog 52 #[.int .i64 k] w fun e w' => e = .returned (strV (nameL k)) ∧ Below w.heap.size w w' := by
  rcases (show k = 3 ∨ k = 4 ∨ k = 5 ∨ k = 6 ∨ k = 7 ∨ k = 8 ∨ k = 9 by omega) with rfl | rfl | rfl | rfl | rfl | rfl | rfl
  all_goals
    go_enter Tryd.func52, Tryd.ntmps52
    go_wp2
    go_ret
    exact ⟨rfl, (by (repeat (first | (with_reducible exact Below.refl _ _) | (with_reducible assumption) | (with_reducible refine Below.drew ?_) | (with_reducible refine below_drewN ?_ _) | ((with_reducible refine Below.setCell ?_ ?_ _); rotate_left; focus (first | (simp; done) | omega | (simp; omega))) | ((with_reducible refine Below.alloc ?_ ?_ _); rotate_left; focus (first | exact Nat.le_refl _ | omega | (simp; done) | (simp; omega))))))⟩

set_option maxRecDepth 8000 in
set_option maxHeartbeats 6400000 in
theorem sl09Text (A : Option Addr) (n c : Nat) (N : Nat → No) (hok : nodesOk N n) (hn : n ≤ 1099511627776) : ∀ k, k < n → (wd N k).length ≤ 24 → ∀ w, RdNo w w.heap.size A n N →
    Calls Tryd.prog 40 #[.slice A n c, .int .i64 (k : Int)] w fun e w' => e = .returned (strV (txt (wd N k))) ∧ Below w.heap.size w w' := by
  intro k
  induction k using Nat.strongRecOn with
  | ind k ih =>
    intro hk hc w hN
    have hnb := nodeB_parts (hok k hk)
    obtain ⟨b, off, rfl, hbB, g0, g1, g2, g3, g4, g5⟩ := hN.2 k hk
    have hki : (k : Int) < n := by omega
    have IH : ∀ (z : Int), 0 ≤ z → z < k → (wd N z.toNat).length ≤ 24 → ∀ v, RdNo v v.heap.size (some ⟨b, off, none⟩) n N → Calls Tryd.prog 40 #[.slice (some ⟨b, off, none⟩) n c, .int .i64 z] v fun e w' => e = .returned (strV (txt (wd N z.toNat))) ∧ Below v.heap.size v w' := fun z h0 h1 h2 v hv => by
      have k0 := ih z.toNat (by omega) (by omega) h2 v hv
      rw [show ((z.toNat : Nat) : Int) = z by omega] at k0
      exact k0
    clear ih
    have HW := Lib.hid (fun i (hi : i < n) => wd_word hok i hi)
    have HNE := Lib.hid (fun i (hi : i < n) => wd_ne hok i hi)
    have hwd1 := fun h => wd_const (N := N) (k := k) h
    have hwd2 := fun h => wd_var (N := N) (k := k) h
    have hwd3 := fun h h1 h2 h3 => wd_two (N := N) (k := k) h h1 h2 h3
    have hwd4 := fun h h1 h2 h3 => wd_pick (N := N) (k := k) h h1 h2 h3
    obtain ⟨s, hs⟩ : ∃ s, s = N k := ⟨_, rfl⟩
    rw [← hs] at g0 g1 g2 g3 g4 g5 hnb hwd1 hwd2 hwd3 hwd4
    have pN : Whole (w.alloc (.cells #[.int .i64 s.k, .int .i64 s.a, .int .i64 s.b, .int .i64 s.c, .int .i64 s.p, .int .i64 s.q] 66)) w.heap.size 66 #[.int .i64 s.k, .int .i64 s.a, .int .i64 s.b, .int .i64 s.c, .int .i64 s.p, .int .i64 s.q] := Whole.new _ _ _
    have hbx : Below w.heap.size w (w.alloc (.cells #[.int .i64 s.k, .int .i64 s.a, .int .i64 s.b, .int .i64 s.c, .int .i64 s.p, .int .i64 s.q] 66)) := (by (repeat (first | (with_reducible exact Below.refl _ _) | (with_reducible assumption) | (with_reducible refine Below.drew ?_) | (with_reducible refine below_drewN ?_ _) | ((with_reducible refine Below.setCell ?_ ?_ _); rotate_left; focus (first | (simp; done) | omega | (simp; omega))) | ((with_reducible refine Below.alloc ?_ ?_ _); rotate_left; focus (first | exact Nat.le_refl _ | omega | (simp; done) | (simp; omega))))))
    obtain ⟨w1, hw1⟩ : ∃ v, v = (w.alloc (.cells #[.int .i64 s.k, .int .i64 s.a, .int .i64 s.b, .int .i64 s.c, .int .i64 s.p, .int .i64 s.q] 66)) := ⟨_, rfl⟩
    rw [← hw1] at pN hbx
    have rd := (hN.below hbx).more hbx.size
    have hne : ¬ b = w.heap.size := by omega
    clear hs hN
    go_enter Tryd.func40, Tryd.ntmps40
    go_upto_region 2 with fail
    rw [← hw1]
    clear hw1 hne hbB g0 g1 g2 g3 g4 g5
    rcases hnb with ⟨h1, hfr⟩ | ⟨h1, a0, a1⟩ | ⟨h1, h2, a0, a1, b0, b1⟩ | ⟨h1, a0, a1, b0, b1, d0, d1⟩
    · have htx : txt (wd N k) = fmtL (s.p, s.q) := by rw [hwd1 h1, txt_one]
      have HTX := Lib.hid htx
      clear htx hwd1 hwd2 hwd3 hwd4 hfr IH
      have t1 : (s.k == 1) = true := by simp; omega
      have c0 : w1.cell? ⟨w.heap.size, 0, none⟩ = some (.int .i64 s.k) := pN.cell 0
      have c1 : w1.cell? ⟨w.heap.size, 1, none⟩ = some (.int .i64 s.a) := pN.cell 1
      have c2 : w1.cell? ⟨w.heap.size, 2, none⟩ = some (.int .i64 s.b) := pN.cell 2
      have c3 : w1.cell? ⟨w.heap.size, 3, none⟩ = some (.int .i64 s.c) := pN.cell 3
      have c4 : w1.cell? ⟨w.heap.size, 4, none⟩ = some (.int .i64 s.p) := pN.cell 4
      have c5 : w1.cell? ⟨w.heap.size, 5, none⟩ = some (.int .i64 s.q) := pN.cell 5
      have zN := pN.lt
      clear h1
      go_wp2_with fail
      refine (sFormatFrac _ _ _).mono ?_
      rintro e w2 ⟨rfl, hb2⟩
      go_wp2_with fail
      go_ret
      exact ⟨by rw [HTX.out]; rfl, hbx.trans (hb2.mono hbx.size)⟩
    · have htx : txt (wd N k) = [118] ++ itoa s.a := by rw [hwd2 h1, txt_one]; rfl
      have HTX := Lib.hid htx
      have hla : ((itoa s.a).length : Int) ≤ 14 := by have := itoa_len (n := s.a) (by omega) (by omega); omega
      clear htx hwd1 hwd2 hwd3 hwd4 IH
      have t1 : (s.k == 1) = false := by simp; omega
      have t2 : (s.k == 2) = true := by simp; omega
      have c0 : w1.cell? ⟨w.heap.size, 0, none⟩ = some (.int .i64 s.k) := pN.cell 0
      have c1 : w1.cell? ⟨w.heap.size, 1, none⟩ = some (.int .i64 s.a) := pN.cell 1
      have c2 : w1.cell? ⟨w.heap.size, 2, none⟩ = some (.int .i64 s.b) := pN.cell 2
      have c3 : w1.cell? ⟨w.heap.size, 3, none⟩ = some (.int .i64 s.c) := pN.cell 3
      have c4 : w1.cell? ⟨w.heap.size, 4, none⟩ = some (.int .i64 s.p) := pN.cell 4
      have c5 : w1.cell? ⟨w.heap.size, 5, none⟩ = some (.int .i64 s.q) := pN.cell 5
      have zN := pN.lt
      clear h1
      go_wp2_with fail
      refine (sFormatInt s.a (by omega) (by omega) _).mono ?_
      rintro e w2 ⟨rfl, hb2⟩
      go_wp2_with fail
      go_ret
      exact ⟨by rw [HTX.out]; first | rfl | simp, hbx.trans (hb2.mono hbx.size)⟩
    · have hwl := hwd3 h1 h2 (by omega) (by omega)
      have hcl := hc
      rw [hwl] at hcl
      simp only [List.length_append, List.length_singleton] at hcl
      have la : (wd N s.a.toNat).length ≤ 24 := by omega
      have hta : ((txt (wd N s.a.toNat)).length : Int) ≤ 624 := by have k0 := txt_len (HW.out s.a.toNat (by omega)); omega
      have hna := HNE.out s.a.toNat (by omega)
      have lb : (wd N s.b.toNat).length ≤ 24 := by omega
      have htb : ((txt (wd N s.b.toNat)).length : Int) ≤ 624 := by have k0 := txt_len (HW.out s.b.toNat (by omega)); omega
      have hnb := HNE.out s.b.toNat (by omega)
      have hnn : ((nameL s.k).length : Int) ≤ 4 := by have := nameL_len s.k; omega
      have htx : txt (wd N k) = nameL s.k ++ [32] ++ txt (wd N s.a.toNat) ++ [32] ++ txt (wd N s.b.toNat) := by rw [hwl, txt_append (by simp) hnb, txt_append (by simp) hna, txt_one]
      have HTX := Lib.hid htx
      clear htx hwl hcl hna hnb hwd1 hwd2 hwd3 hwd4
      have kk3 : 3 ≤ s.k := h1
      have kk9 : s.k ≤ 9 := by omega
      have t1 : (s.k == 1) = false := by simp; omega
      have t2 : (s.k == 2) = false := by simp; omega
      have t9 : (s.k == 9) = false := by simp; omega
      have c0 : w1.cell? ⟨w.heap.size, 0, none⟩ = some (.int .i64 s.k) := pN.cell 0
      have c1 : w1.cell? ⟨w.heap.size, 1, none⟩ = some (.int .i64 s.a) := pN.cell 1
      have c2 : w1.cell? ⟨w.heap.size, 2, none⟩ = some (.int .i64 s.b) := pN.cell 2
      have c3 : w1.cell? ⟨w.heap.size, 3, none⟩ = some (.int .i64 s.c) := pN.cell 3
      have c4 : w1.cell? ⟨w.heap.size, 4, none⟩ = some (.int .i64 s.p) := pN.cell 4
      have c5 : w1.cell? ⟨w.heap.size, 5, none⟩ = some (.int .i64 s.q) := pN.cell 5
      have zN := pN.lt
      clear h1 h2
      go_upto_region 7 with fail
      obtain ⟨S, hSd⟩ : ∃ S : World → Prop, S = fun v => Below w1.heap.size w1 v := ⟨_, rfl⟩
      have hS0 : S w1.drew := by rw [hSd]; exact Below.drew (Below.refl _ _)
      have hkeep : ∀ (u u' : World), S u → Below u.heap.size u u' → S u' := by
        intro u u' hu hb
        rw [hSd] at hu ⊢
        exact Below.trans hu (hb.mono hu.size)
      have hSend : ∀ u, S u → Below w1.heap.size w1 u := by intro u hu; rw [hSd] at hu; exact hu
      have hne0 : Nonempty (InClass S) := ⟨⟨_, hS0⟩⟩
      clear hSd
      have k0 : ∀ x : InClass S, x.w.cell? ⟨w.heap.size, 0, none⟩ = some (.int .i64 s.k) := fun x => ((hSend _ x.h).cell (p := ⟨w.heap.size, 0, none⟩) zN).trans c0
      have k1 : ∀ x : InClass S, x.w.cell? ⟨w.heap.size, 1, none⟩ = some (.int .i64 s.a) := fun x => ((hSend _ x.h).cell (p := ⟨w.heap.size, 1, none⟩) zN).trans c1
      have k2 : ∀ x : InClass S, x.w.cell? ⟨w.heap.size, 2, none⟩ = some (.int .i64 s.b) := fun x => ((hSend _ x.h).cell (p := ⟨w.heap.size, 2, none⟩) zN).trans c2
      have GX := fun (x : InClass S) (z : Int) (h0 : 0 ≤ z) (h1 : z < k) (h2 : (wd N z.toNat).length ≤ 24) => IH z h0 h1 h2 x.w ((rd.below (hSend _ x.h)).more (hSend _ x.h).size)
      have GN := fun (x : InClass S) => sl09Name s.k kk3 kk9 x.w
      clear c0 c1 c2 c3 c4 c5 zN
      refine wp_region_class (S := S) (by kernel_rfl) (by kernel_rfl) hS0 ?_
      repeat (go_big_quiet_step (first | (go_at_call 52; exact class_call (GN _) hkeep) | (go_at_call 40; exact class_call (GX _ _ (by omega) (by omega) (by first | exact la | exact lb)) hkeep)))
      refine wpQuiet_nil ?_
      rintro w5 ⟨x5, hx5⟩
      have hS5 := hSend w5 (by rw [hx5]; exact x5.h)
      clear hx5 x5 k0 k1 k2 GX GN hkeep hSend hne0 hS0
      have e0 : w5.cell? ⟨w.heap.size, 0, none⟩ = some (.int .i64 s.k) := (pN.below hS5 pN.lt).cell 0
      go_wp2_with fail
      go_ret
      exact ⟨by rw [HTX.out]; first | rfl | simp, hbx.trans (hS5.mono hbx.size)⟩
    · have hwl := hwd4 h1 (by omega) (by omega) (by omega)
      have hcl := hc
      rw [hwl] at hcl
      simp only [List.length_append, List.length_singleton] at hcl
      have la : (wd N s.a.toNat).length ≤ 24 := by omega
      have hta : ((txt (wd N s.a.toNat)).length : Int) ≤ 624 := by have k0 := txt_len (HW.out s.a.toNat (by omega)); omega
      have hna := HNE.out s.a.toNat (by omega)
      have lb : (wd N s.b.toNat).length ≤ 24 := by omega
      have htb : ((txt (wd N s.b.toNat)).length : Int) ≤ 624 := by have k0 := txt_len (HW.out s.b.toNat (by omega)); omega
      have hnb := HNE.out s.b.toNat (by omega)
      have lc : (wd N s.c.toNat).length ≤ 24 := by omega
      have htc : ((txt (wd N s.c.toNat)).length : Int) ≤ 624 := by have k0 := txt_len (HW.out s.c.toNat (by omega)); omega
      have hnc := HNE.out s.c.toNat (by omega)
      have hnn : ((nameL s.k).length : Int) ≤ 4 := by have := nameL_len s.k; omega
      have htx : txt (wd N k) = nameL s.k ++ [32] ++ txt (wd N s.a.toNat) ++ [32] ++ txt (wd N s.b.toNat) ++ [32] ++ txt (wd N s.c.toNat) := by rw [hwl, txt_append (by simp) hnc, txt_append (by simp) hnb, txt_append (by simp) hna, txt_one]
      have HTX := Lib.hid htx
      clear htx hwl hcl hna hnb hnc hwd1 hwd2 hwd3 hwd4
      have kk3 : 3 ≤ s.k := by omega
      have kk9 : s.k ≤ 9 := by omega
      have t1 : (s.k == 1) = false := by simp; omega
      have t2 : (s.k == 2) = false := by simp; omega
      have t9 : (s.k == 9) = true := by simp; omega
      have c0 : w1.cell? ⟨w.heap.size, 0, none⟩ = some (.int .i64 s.k) := pN.cell 0
      have c1 : w1.cell? ⟨w.heap.size, 1, none⟩ = some (.int .i64 s.a) := pN.cell 1
      have c2 : w1.cell? ⟨w.heap.size, 2, none⟩ = some (.int .i64 s.b) := pN.cell 2
      have c3 : w1.cell? ⟨w.heap.size, 3, none⟩ = some (.int .i64 s.c) := pN.cell 3
      have c4 : w1.cell? ⟨w.heap.size, 4, none⟩ = some (.int .i64 s.p) := pN.cell 4
      have c5 : w1.cell? ⟨w.heap.size, 5, none⟩ = some (.int .i64 s.q) := pN.cell 5
      have zN := pN.lt
      clear h1
      go_upto_region 7 with fail
      obtain ⟨S, hSd⟩ : ∃ S : World → Prop, S = fun v => Below w1.heap.size w1 v := ⟨_, rfl⟩
      have hS0 : S w1.drew := by rw [hSd]; exact Below.drew (Below.refl _ _)
      have hkeep : ∀ (u u' : World), S u → Below u.heap.size u u' → S u' := by
        intro u u' hu hb
        rw [hSd] at hu ⊢
        exact Below.trans hu (hb.mono hu.size)
      have hSend : ∀ u, S u → Below w1.heap.size w1 u := by intro u hu; rw [hSd] at hu; exact hu
      have hne0 : Nonempty (InClass S) := ⟨⟨_, hS0⟩⟩
      clear hSd
      have k0 : ∀ x : InClass S, x.w.cell? ⟨w.heap.size, 0, none⟩ = some (.int .i64 s.k) := fun x => ((hSend _ x.h).cell (p := ⟨w.heap.size, 0, none⟩) zN).trans c0
      have k1 : ∀ x : InClass S, x.w.cell? ⟨w.heap.size, 1, none⟩ = some (.int .i64 s.a) := fun x => ((hSend _ x.h).cell (p := ⟨w.heap.size, 1, none⟩) zN).trans c1
      have k2 : ∀ x : InClass S, x.w.cell? ⟨w.heap.size, 2, none⟩ = some (.int .i64 s.b) := fun x => ((hSend _ x.h).cell (p := ⟨w.heap.size, 2, none⟩) zN).trans c2
      have GX := fun (x : InClass S) (z : Int) (h0 : 0 ≤ z) (h1 : z < k) (h2 : (wd N z.toNat).length ≤ 24) => IH z h0 h1 h2 x.w ((rd.below (hSend _ x.h)).more (hSend _ x.h).size)
      have GN := fun (x : InClass S) => sl09Name s.k kk3 kk9 x.w
      clear c0 c1 c2 c3 c4 c5 zN
      refine wp_region_class (S := S) (by kernel_rfl) (by kernel_rfl) hS0 ?_
      repeat (go_big_quiet_step (first | (go_at_call 52; exact class_call (GN _) hkeep) | (go_at_call 40; exact class_call (GX _ _ (by omega) (by omega) (by first | exact la | exact lb)) hkeep)))
      refine wpQuiet_nil ?_
      rintro w5 ⟨x5, hx5⟩
      have hS5 := hSend w5 (by rw [hx5]; exact x5.h)
      clear hx5 x5 k0 k1 k2 GX GN hkeep hSend hne0 hS0
      have p5 := pN.below hS5 pN.lt
      have e0 : w5.cell? ⟨w.heap.size, 0, none⟩ = some (.int .i64 s.k) := p5.cell 0
      have e3 : w5.cell? ⟨w.heap.size, 3, none⟩ = some (.int .i64 s.c) := p5.cell 3
      have z5 := p5.lt
      have IC := IH s.c (by omega) (by omega) lc w5 ((rd.below hS5).more hS5.size)
      clear IH
      go_wp2_with fail
      refine IC.mono ?_
      rintro e w6 ⟨rfl, hb6⟩
      go_wp2_with fail
      go_ret
      exact ⟨by rw [HTX.out]; first | rfl | simp, (hbx.trans (hS5.mono hbx.size)).trans (hb6.mono (by have := hbx.size; have := hS5.size; omega))⟩
end Go.Proofs.YtdccdoodmiihbaaDoor
