/- The store and the series that DrawPay gives. Conditions: the bytes can be read. -/
import Derived.Test.YtondmakaednpdaaPub
import Derived.Test.YtondmakaednpdaaPayL
import Derived.Test.YtondmakaednpdaaPlaces
namespace Go.Proofs.Ytondmakaednpdaa
open Go.RowKit

theorem OwR.apart {w : World} {base size n g : Nat} {e t : TypeId} {v : Value} {F : Nat → Value} {cs : Array Value} (h : OwR w base e size v n F) (hg : Whole w g t cs) (hne : e ≠ t) : ∀ k, v.ownBlock = some k → some g ≠ some k := by
  intro k hk e2
  injection e2 with e2
  subst e2
  rcases h with ⟨rfl, _⟩ | ⟨g', cap, G, rfl, _, _, _, h5, _⟩
  · simp [Value.ownBlock] at hk
  · simp only [Value.ownBlock, Option.some.injEq] at hk
    subst hk
    obtain ⟨c, hh, _⟩ := h5
    unfold Whole at hg
    rw [hg] at hh
    injection hh with hh
    injection hh with _ ht
    exact hne ht.symm
theorem owr_drawn {w w' : World} {B g n c base size m : Nat} {e : TypeId} {A : Option Addr} {v : Value} {F : Nat → Value} (h : OwR w base e size v m F) (hc : Cur w B g A n c) (hg : w.grownBy w' (some g)) (hne : e ≠ 92) : OwR w' base e size v m F := by
  obtain ⟨_, _, hw, _⟩ := hc
  exact h.kept hg (h.apart hw hne)
theorem Cur.kept {w w' : World} {B g n c : Nat} {A : Option Addr} (h : Cur w B g A n c) (hb : Below w.heap.size w w') : Cur w' B g A n c := h.grown (grown_of_below hb none) (by simp) (by simp)
theorem sAddFactN (w : World) (A : Option Addr) (n c : Nat) (L : Nat → Fa) (s : Fa) (h : RdFa w w.heap.size A n L) (hA : A = none → n = 0 ∧ c = 0) (hn : n ≤ 100) (hok : stOk n L = true) (hok' : stOk (n + 1) (upd L n s) = true) :
    Calls Try.prog 33 #[.agg #[.slice A n c], s.val] w fun e w' => ∃ (B : Option Addr) (cc : Nat), e = .returned (.tuple #[.agg #[.slice B (n + 1) cc], .bool true]) ∧ OwR w' w.heap.size 71 5 (.slice B (n + 1) cc) (n + 1) (faAt (upd L n s)) ∧ Below w.heap.size w w' := by
  have h1 := sAddFact w A n c L (upd L n s) h hA hn (fun i hi => upd_lt L s hi) hok hok'
  rw [upd_same] at h1
  exact h1
theorem sPublishN (w : World) (A : Option Addr) (n c : Nat) (P : Nat → Po) (s : Po) (h : RdPo w w.heap.size A n P) (hA : A = none → n = 0 ∧ c = 0) (hn : n ≤ 100) (hNE : ∀ ad, A = some ad → 0 < n) (hok : seOk n P = true) (hok' : seOk (n + 1) (upd P n s) = true) :
    Calls Try.prog 35 #[.agg #[.slice A n c], s.val] w fun e w' => ∃ (B : Option Addr) (cc : Nat), e = .returned (.tuple #[.agg #[.slice B (n + 1) cc], .bool true]) ∧ OwR w' w.heap.size 45 3 (.slice B (n + 1) cc) (n + 1) (poAt (upd P n s)) ∧ Below w.heap.size w w' := by
  have hs : upd P n s n = s := upd_same P n s
  cases A with
  | none =>
    obtain ⟨rfl, rfl⟩ := hA rfl
    have h1 := sPublishNil w (upd P 0 s) hok'
    rw [upd_same] at h1
    exact h1
  | some ad =>
    by_cases h0 : 0 < n
    · have h1 := sPublishSome w ad n c P (upd P n s) h h0 hn (fun i hi => upd_lt P s hi) hok hok'
      rw [upd_same] at h1
      exact h1
    · obtain rfl : n = 0 := by omega
      exact absurd h0 (by have := hNE ad rfl; omega)

theorem OwR.none_no {w : World} {base size n c : Nat} {e : TypeId} {A : Option Addr} {F : Nat → Value} (h : OwR w base e size (.slice A n c) n F) (hn : 0 < n) : A = none → n = 0 ∧ c = 0 := by
  rintro rfl
  rcases h with ⟨hv, h0⟩ | ⟨g, cap, G, hv, _⟩
  · omega
  · cases hv

theorem owr_two {w : World} {base size n a b : Nat} {e t t' : TypeId} {v u u' : Value} {F : Nat → Value} {cs cs' : Array Value} (h : OwR w base e size v n F) (ha : Whole w a t cs) (hb : Whole w b t' cs') (hab : a ≠ b) (h1 : e ≠ t) (h2 : e ≠ t') : OwR ((w.setCell ⟨a, 0, none⟩ u).setCell ⟨b, 0, none⟩ u') base e size v n F :=
  have k := h.kept (grownBy_setCell' w a u) (h.apart ha h1)
  k.kept (grownBy_setCell' _ b u') (k.apart (hb.far (p := ⟨a, 0, none⟩) (fun e => hab e.symm) u) h2)
theorem RdFa_drew {w : World} {n : Nat} {A : Option Addr} {L : Nat → Fa} (h : RdFa w w.heap.size A n L) : RdFa w.drew w.drew.heap.size A n L := h

set_option maxRecDepth 8000 in
set_option maxHeartbeats 6400000 in
theorem sDrawPay (w : World) (A : Option Addr) (n c : Nat) (hb : Bys w w.heap.size A n) :
    Calls Try.prog 12 #[.slice A n c] w fun e w' => ∃ (C D : Option Addr) (m q cC cD : Nat) (L : Nat → Fa), e = .returned (.tuple #[.agg #[.slice C m cC], .agg #[.slice D q cD]]) ∧ payS m L ∧ RdFa w' w'.heap.size C m L ∧ Below w.heap.size w w' := by
  have hw0 : Below w.heap.size w ((w.alloc (.cells #[.slice none 0 0] 26)).alloc (.cells #[.slice none 0 0] 29)) := (by (repeat (first | (with_reducible exact Below.refl _ _) | (with_reducible assumption) | (with_reducible refine Below.drew ?_) | (with_reducible refine below_drewN ?_ _) | ((with_reducible refine Below.setCell ?_ ?_ _); rotate_left; focus (first | (simp; done) | omega | (simp; omega))) | ((with_reducible refine Below.alloc ?_ ?_ _); rotate_left; focus (first | exact Nat.le_refl _ | omega | (simp; done) | (simp; omega))))))
  have ha0 := Whole.new w 26 #[.slice none 0 0]
  have ha := ha0.alloc (.cells #[.slice none 0 0] 29)
  have hq := Whole.new (w.alloc (.cells #[.slice none 0 0] 26)) 29 #[.slice none 0 0]
  simp only [World.size_alloc] at hq
  clear ha0
  go_enter Try.func12, Try.ntmps12
  go_wp2_with fail
  refine (sNew _ w.heap.size A n c hw0.size (hb.below hw0)).mono ?_
  rintro e w1 ⟨g, rfl, hc1, hb1, hg⟩
  simp at hg
  have ha1 := ha.below hb1 ha.lt
  have hq1 := hq.below hb1 hq.lt
  have hB1 : Below w.heap.size w w1 := hw0.trans (hb1.mono (by simp <;> omega))
  have hgl : g < w1.heap.size := by obtain ⟨_, _, h, _⟩ := hc1; exact h.lt
  clear ha hq hb1 hw0 hb
  go_wp2_with fail
  refine (sBelow _ w.heap.size g A n c 1000 (by omega) hc1).mono ?_
  rintro e w2 ⟨x2, rfl, hx2, hc2, hg2⟩
  obtain ⟨l2, u2a, -⟩ := hx2
  have u2 := u2a (by omega)
  clear u2a
  have ha2 := ha1.grown hg2 (by intro e; injection e; omega)
  have hq2 := hq1.grown hg2 (by intro e; injection e; omega)
  have hB2 := hB1.grown hg2 hB1.size (fun q hq => by injection hq; omega)
  have hs2 := hg2.size
  have zw2 : w.heap.size ≤ w2.heap.size := hB2.size
  clear hg2 ha1 hq1 hB1 hc1
  have m1 : IntKind.i64.wrap (x2 * 100) = x2 * 100 := IntWalk.i64_in _ ⟨by omega, by omega⟩
  have m2 : IntKind.i64.wrap (100000 + x2 * 100) = 100000 + x2 * 100 := IntWalk.i64_in _ ⟨by omega, by omega⟩
  have pay1 := payS_one (fun _ => Fa.zero) (v := 100000 + x2 * 100) (by omega) (by omega)
  obtain ⟨L1, hL1⟩ : ∃ L1, L1 = upd (fun _ => Fa.zero) 0 (⟨1, 0, 60, 0, 100000 + x2 * 100⟩ : Fa) := ⟨_, rfl⟩
  have AF := fun (v : World) => sAddFactN v none 0 0 (fun _ => Fa.zero) ⟨1, 0, 60, 0, 100000 + x2 * 100⟩ ⟨by omega, fun i hi => by omega⟩ (fun _ => ⟨rfl, rfl⟩) (by omega) rfl pay1.ok
  rw [← hL1] at AF pay1
  have PAY1 := Lib.hid pay1
  clear hL1 pay1
  go_wp2_with fail
  refine (AF _).mono ?_
  rintro e w3 ⟨C1, k1, rfl, own3, hb3⟩
  clear AF
  have hc3 := hc2.kept hb3
  have ha3 := ha2.below hb3 ha2.lt
  have hq3 := hq2.below hb3 hq2.lt
  have hB3 : Below w.heap.size w w3 := hB2.trans (hb3.mono hB2.size)
  have hs3 := hb3.size
  clear hb3 ha2 hq2 hB2 hc2
  have bs4 := Whole.new w3 26 #[.slice C1 (0 + 1) k1]
  have hbx : Below w3.heap.size w3 (w3.alloc (.cells #[.slice C1 (0 + 1) k1] 26)) := (Below.refl _ _).alloc (Nat.le_refl _) _
  have own4 := own3.all hbx
  have ha4 := ha3.below hbx ha3.lt
  have hq4 := hq3.below hbx hq3.lt
  have hB4 := hB3.trans (hbx.mono hB3.size)
  have hc4 := hc3.kept hbx
  have hs4 := hbx.size
  clear hbx own3 ha3 hq3 hB3
  go_wp2_with fail
  refine (sBelow _ w.heap.size g A n c 2000 (by omega) hc4).mono ?_
  rintro e w5 ⟨x5, rfl, hx5, hc5, hg5⟩
  obtain ⟨l5, u5a, -⟩ := hx5
  have u5 := u5a (by omega)
  clear u5a
  have bs5 := bs4.grown hg5 (by intro e; injection e; omega)
  have ha5 := ha4.grown hg5 (by intro e; injection e; omega)
  have hq5 := hq4.grown hg5 (by intro e; injection e; omega)
  have own5 := owr_drawn own4 hc4 hg5 (by decide)
  have hB5 := hB4.grown hg5 hB4.size (fun q hq => by injection hq; omega)
  have hs5 := hg5.size
  simp only [World.size_alloc] at hs5
  have zw5 : w.heap.size ≤ w5.heap.size := hB5.size
  clear hg5 bs4 ha4 hq4 own4 hB4 hc4 hc3
  have m3 : IntKind.i64.wrap (9000 + x5) = 9000 + x5 := IntWalk.i64_in _ ⟨by omega, by omega⟩
  have ser1 := serS_one (fun _ => Po.zero) (v := 9000 + x5) (by omega) (by omega)
  obtain ⟨P1, hP1⟩ : ∃ P1, P1 = upd (fun _ => Po.zero) 0 (⟨0, 0, 9000 + x5⟩ : Po) := ⟨_, rfl⟩
  have AP := fun (v : World) => sPublishN v none 0 0 (fun _ => Po.zero) ⟨0, 0, 9000 + x5⟩ ⟨by omega, fun i hi => by omega⟩ (fun _ => ⟨rfl, rfl⟩) (by omega) (fun _ e => by cases e) rfl ser1.ok
  have NP1 : (P1 0).n ≤ 10 * ((0 : Nat) : Int) := by rw [hP1, upd_same]; simp
  rw [← hP1] at AP ser1
  have SER1 := Lib.hid ser1
  clear hP1 ser1
  go_wp2_with fail
  refine (AP _).mono ?_
  rintro e w6 ⟨D1, k2, rfl, onw6, hb6⟩
  clear AP
  have bs6 := bs5.below hb6 bs5.lt
  have hc6 := hc5.kept hb6
  have ha6 := ha5.below hb6 ha5.lt
  have hq6 := hq5.below hb6 hq5.lt
  have own6 := own5.all hb6
  have hB6 : Below w.heap.size w w6 := hB5.trans (hb6.mono hB5.size)
  have hs6 := hb6.size
  clear hb6 bs5 ha5 hq5 own5 hB5 hc5
  have bx7 := Whole.new w6 29 #[.slice D1 (0 + 1) k2]
  have hbx : Below w6.heap.size w6 (w6.alloc (.cells #[.slice D1 (0 + 1) k2] 29)) := (Below.refl _ _).alloc (Nat.le_refl _) _
  have own7 := own6.all hbx
  have onw7 := onw6.all hbx
  have ha7 := ha6.below hbx ha6.lt
  have hq7 := hq6.below hbx hq6.lt
  have bs7 := bs6.below hbx bs6.lt
  have hB7 := hB6.trans (hbx.mono hB6.size)
  have hc7 := hc6.kept hbx
  clear hbx own6 onw6 ha6 hq6 bs6 hB6 hc6
  obtain ⟨bs, hbs⟩ : ∃ bs, bs = w3.heap.size := ⟨_, rfl⟩
  obtain ⟨bx, hbx⟩ : ∃ bx, bx = w6.heap.size := ⟨_, rfl⟩
  have hbs1 : g < bs := by omega
  have hbs2 : bs < bx := by omega
  have hsz7 : bx < (w6.alloc (.cells #[.slice D1 (0 + 1) k2] 29)).heap.size := by simp; omega
  rw [← hbs] at bs7
  rw [← hbx] at bx7
  go_wp2_with fail
  rw [← hbs, ← hbx]
  clear hbs hbx hs2 hs3 hs4 hs5 hs6 hgl
  go_loopw [9] (fun i wr => ∃ (k : Nat) (C D : Option Addr) (cC cD : Nat) (L : Nat → Fa) (P : Nat → Po), k ≤ 5 ∧ i = .int .i64 k ∧ Hid (payS (k + 1) L ∧ (L k).n ≤ 10 * (k : Int)) ∧ Hid (serS (k + 1) P ∧ (P k).n ≤ 10 * (k : Int)) ∧ Whole wr bs 26 #[.slice C (k + 1) cC] ∧ Whole wr bx 29 #[.slice D (k + 1) cD] ∧ Whole wr w.heap.size 26 #[.slice none 0 0] ∧ Whole wr (w.heap.size + 1) 29 #[.slice none 0 0] ∧ OwR wr w.heap.size 71 5 (.slice C (k + 1) cC) (k + 1) (faAt L) ∧ OwR wr w.heap.size 45 3 (.slice D (k + 1) cD) (k + 1) (poAt P) ∧ Cur wr w.heap.size g A n c ∧ bx < wr.heap.size ∧ Below w.heap.size w wr) (fun i _ => 6 - (intOf i).toNat)
  case atStart => exact ⟨0, C1, D1, k1, k2, L1, P1, by omega, rfl, Lib.hid ⟨PAY1.out, by have := PAY1.out.2.2.1.2.2; rw [this]; simp⟩, Lib.hid ⟨SER1.out, NP1⟩, bs7, bx7, ha7, hq7, own7.less (by omega), onw7.less (by omega), hc7, hsz7, hB7⟩
  case round =>
    obtain ⟨k, C, D, cC, cD, L, P, hk, rfl, hpay, hser, bs0, bx0, ha0, hq0, own0, onw0, hc0, hsz0, hB0⟩ := hrel
    go_wp2_with fail
    refine (sBelow _ w.heap.size g A n c 6 (by omega) hc0).mono ?_
    rintro e w8 ⟨x8, rfl, hx8, hc8, hg8⟩
    obtain ⟨l8, u8a, -⟩ := hx8
    have u8 := u8a (by omega)
    clear u8a
    have bs8 := bs0.grown hg8 (by intro e; injection e; omega)
    have bx8 := bx0.grown hg8 (by intro e; injection e; omega)
    have ha8 := ha0.grown hg8 (by intro e; injection e; omega)
    have hq8 := hq0.grown hg8 (by intro e; injection e; omega)
    have own8 := owr_drawn own0 hc0 hg8 (by decide)
    have onw8 := owr_drawn onw0 hc0 hg8 (by decide)
    have hB8 : Below w.heap.size w w8 := hB0.grown hg8 hB0.size (fun q hq => by injection hq; omega)
    have hs8 : wr.heap.size ≤ w8.heap.size := hg8.size
    have hsz8 : bx < w8.heap.size := (by omega)
    clear hg8 bs0 bx0 ha0 hq0 own0 onw0 hB0 hc0
    by_cases hlt : (k : Int) < x8
    · go_wp2_with fail
      refine (sBelow _ w.heap.size g A n c 50 (by omega) hc8).mono ?_
      rintro e w9 ⟨x9, rfl, hx9, hc9, hg9⟩
      obtain ⟨l9, u9a, -⟩ := hx9
      have u9 := u9a (by omega)
      clear u9a
      have bs9 := bs8.grown hg9 (by intro e; injection e; omega)
      have bx9 := bx8.grown hg9 (by intro e; injection e; omega)
      have ha9 := ha8.grown hg9 (by intro e; injection e; omega)
      have hq9 := hq8.grown hg9 (by intro e; injection e; omega)
      have own9 := owr_drawn own8 hc8 hg9 (by decide)
      have onw9 := owr_drawn onw8 hc8 hg9 (by decide)
      have hB9 : Below w.heap.size w w9 := hB8.grown hg9 hB8.size (fun q hq => by injection hq; omega)
      have hs9 : w8.heap.size ≤ w9.heap.size := hg9.size
      have hsz9 : bx < w9.heap.size := (by omega)
      clear hg9 bs8 bx8 ha8 hq8 own8 onw8 hB8 hc8
      have m5 : IntKind.i64.wrap (x9 + 1) = x9 + 1 := IntWalk.i64_in _ ⟨by omega, by omega⟩
      have m6 : IntKind.i64.wrap (10 * (k : Int)) = 10 * (k : Int) := IntWalk.i64_in _ ⟨by omega, by omega⟩
      have cb9 : w9.cell? ⟨bs, 0, none⟩ = some (.slice C (k + 1) cC) := bs9.cell 0
      have cbd9 : w9.drew.cell? ⟨bs, 0, none⟩ = some (.slice C (k + 1) cC) := cb9
      go_upto_region 8 with fail
      go_cut [41] (fun _ wx => ∃ (C' : Option Addr) (cC' : Nat) (L' : Nat → Fa), Hid (payS (k + 1 + 1) L' ∧ (L' (k + 1)).n ≤ 10 * ((k + 1 : Nat) : Int)) ∧ Whole wx bs 26 #[.slice C' (k + 1 + 1) cC'] ∧ Whole wx bx 29 #[.slice D (k + 1) cD] ∧ Whole wx w.heap.size 26 #[.slice none 0 0] ∧ Whole wx (w.heap.size + 1) 29 #[.slice none 0 0] ∧ OwR wx w.heap.size 71 5 (.slice C' (k + 1 + 1) cC') (k + 1 + 1) (faAt L') ∧ OwR wx w.heap.size 45 3 (.slice D (k + 1) cD) (k + 1) (poAt P) ∧ Cur wx w.heap.size g A n c ∧ bx < wx.heap.size ∧ Below w.heap.size w wx)
      case first =>
        go_region_with (first
      | (go_at_call 34; refine (sBelow _ w.heap.size g A n c 10 (by omega) (show Cur w9.drew w.heap.size g A n c from hc9)).mono ?_; rintro e w10 ⟨x10, rfl, hx10, hc10, hgd10⟩; have hg10 : w9.grownBy w10 (some g) := ⟨hgd10.os, hgd10.tape, hgd10.output, hgd10.size, hgd10.block⟩; clear hgd10; obtain ⟨l10, u10a, -⟩ := hx10; have u10 := u10a (by omega); clear u10a; have bs10 := bs9.grown hg10 (by intro e; injection e; omega); have bx10 := bx9.grown hg10 (by intro e; injection e; omega); have ha10 := ha9.grown hg10 (by intro e; injection e; omega); have hq10 := hq9.grown hg10 (by intro e; injection e; omega); have own10 := owr_drawn own9 hc9 hg10 (by decide); have onw10 := owr_drawn onw9 hc9 hg10 (by decide); have hB10 : Below w.heap.size w w10 := hB9.grown hg10 hB9.size (fun q hq => by injection hq; omega); have hs10 : w9.heap.size ≤ w10.heap.size := hg10.size; have hsz10 : bx < w10.heap.size := (by omega); clear hg10 bs9 bx9 ha9 hq9 own9 onw9 hB9 hc9; have m7 : IntKind.i64.wrap (x9 + 1 + x10) = x9 + 1 + x10 := IntWalk.i64_in _ ⟨by omega, by omega⟩; have cb10 : w10.cell? ⟨bs, 0, none⟩ = some (.slice C (k + 1) cC) := bs10.cell 0)
      | (go_at_call 34; (with_reducible refine (sBelow _ w.heap.size g A n c 1000 (by omega) hc10).mono ?_); rintro e w11 ⟨x11, rfl, hx11, hc11, hg11⟩; obtain ⟨l11, u11a, -⟩ := hx11; have u11 := u11a (by omega); clear u11a; have bs11 := bs10.grown hg11 (by intro e; injection e; omega); have bx11 := bx10.grown hg11 (by intro e; injection e; omega); have ha11 := ha10.grown hg11 (by intro e; injection e; omega); have hq11 := hq10.grown hg11 (by intro e; injection e; omega); have own11 := owr_drawn own10 hc10 hg11 (by decide); have onw11 := owr_drawn onw10 hc10 hg11 (by decide); have hB11 : Below w.heap.size w w11 := hB10.grown hg11 hB10.size (fun q hq => by injection hq; omega); have hs11 : w10.heap.size ≤ w11.heap.size := hg11.size; have hsz11 : bx < w11.heap.size := (by omega); clear hg11 bs10 bx10 ha10 hq10 own10 onw10 hB10 hc10; have m8 : IntKind.i64.wrap (x11 * 100) = x11 * 100 := IntWalk.i64_in _ ⟨by omega, by omega⟩; have m9 : IntKind.i64.wrap (100000 + x11 * 100) = 100000 + x11 * 100 := IntWalk.i64_in _ ⟨by omega, by omega⟩; have cb11 : w11.cell? ⟨bs, 0, none⟩ = some (.slice C (k + 1) cC) := bs11.cell 0; have pay11 := hpay.out.1.more (by omega) (f := x9) (t := x9 + 1 + x10) (k := 10 * (k : Int)) (v := 100000 + x11 * 100) (by have := hpay.out.2; simpa using this) l9 (by omega) (by omega) (by omega) (by omega) (by omega); have HP11 := Lib.hid (show payS (k + 1 + 1) (upd L (k + 1) (⟨1, x9, x9 + 1 + x10, 10 * (k : Int), 100000 + x11 * 100⟩ : Fa)) ∧ (upd L (k + 1) (⟨1, x9, x9 + 1 + x10, 10 * (k : Int), 100000 + x11 * 100⟩ : Fa) (k + 1)).n ≤ 10 * ((k + 1 : Nat) : Int) from ⟨pay11, by rw [upd_same]; show 10 * (k : Int) ≤ _; omega⟩); clear pay11)
      | (go_at_call 33; refine (sAddFactN w11 C (k + 1) cC L (⟨1, x9, x9 + 1 + x10, 10 * (k : Int), 100000 + x11 * 100⟩ : Fa) (RdFa.own own11) (own11.none_no (by omega)) (by omega) hpay.out.1.ok HP11.out.1.ok).mono ?_; rintro e w12 ⟨C', cC', rfl, own', hb12⟩; have bs12 := bs11.below hb12 bs11.lt; have bx12 := bx11.below hb12 bx11.lt; have ha12 := ha11.below hb12 ha11.lt; have hq12 := hq11.below hb12 hq11.lt; have own12 := own11.all hb12; have onw12 := onw11.all hb12; have hc12 := hc11.kept hb12; have hB12 : Below w.heap.size w w12 := hB11.trans (hb12.mono hB11.size); have hs12 : w11.heap.size ≤ w12.heap.size := hb12.size; have hsz12 : bx < w12.heap.size := (by omega); have ws12 : w.heap.size ≤ w11.heap.size := hB11.size; clear hb12 bs11 bx11 ha11 hq11 own11 onw11 hB11 hc11; have cb12 : w12.cell? ⟨bs, 0, none⟩ = some (.slice C (k + 1) cC) := bs12.cell 0; have fb12 := bs12.free 0))
        all_goals
          go_wp2_with fail
          go_meet
          refine ⟨C', cC', _, HP11, by simpa using bs12.put 0 (.slice C' (k + 1 + 1) cC'), bx12.far (by simp; omega) _, ha12.far (by simp; omega) _, hq12.far (by simp; omega) _, ?_, ?_, ?_, by simp; omega, hB12.setCell (by simp; omega) _⟩
          · exact (own'.less ws12).kept (grownBy_setCell' w12 bs _) (own'.apart bs12 (by decide))
          · exact onw12.kept (grownBy_setCell' w12 bs _) (onw12.apart bs12 (by decide))
          · exact hc12.grown (grownBy_setCell' w12 bs _) (by intro e; injection e; omega) (fun q hq => by injection hq; omega)
      case rest =>
        clear hpay
        obtain ⟨C', cC', L', HP, bs13, bx13, ha13, hq13, own13, onw13, hc13, hsz13, hB13⟩ := hcut
        clear m5
        have cb13 : wc.cell? ⟨bx, 0, none⟩ = some (.slice D (k + 1) cD) := bx13.cell 0
        have cbd13 : wc.drew.cell? ⟨bx, 0, none⟩ = some (.slice D (k + 1) cD) := cb13
        go_wp2_with fail
        go_region_with (first
      | (go_at_call 34; refine (sBelow _ w.heap.size g A n c 4000 (by omega) (show Cur wc.drew w.heap.size g A n c from hc13)).mono ?_; rintro e w14 ⟨x14, rfl, hx14, hc14, hgd14⟩; have hg14 : wc.grownBy w14 (some g) := ⟨hgd14.os, hgd14.tape, hgd14.output, hgd14.size, hgd14.block⟩; clear hgd14; obtain ⟨l14, u14a, -⟩ := hx14; have u14 := u14a (by omega); clear u14a; have bs14 := bs13.grown hg14 (by intro e; injection e; omega); have bx14 := bx13.grown hg14 (by intro e; injection e; omega); have ha14 := ha13.grown hg14 (by intro e; injection e; omega); have hq14 := hq13.grown hg14 (by intro e; injection e; omega); have own14 := owr_drawn own13 hc13 hg14 (by decide); have onw14 := owr_drawn onw13 hc13 hg14 (by decide); have hB14 : Below w.heap.size w w14 := hB13.grown hg14 hB13.size (fun q hq => by injection hq; omega); have hs14 : wc.heap.size ≤ w14.heap.size := hg14.size; have hsz14 : bx < w14.heap.size := (by omega); clear hg14 bs13 bx13 ha13 hq13 own13 onw13 hB13 hc13; have m10 : IntKind.i64.wrap (9000 + x14) = 9000 + x14 := IntWalk.i64_in _ ⟨by omega, by omega⟩; have cb14 : w14.cell? ⟨bx, 0, none⟩ = some (.slice D (k + 1) cD) := bx14.cell 0; have ser14 := hser.out.1.more (by omega) (k := 10 * (k : Int)) (v := 9000 + x14) (by have := hser.out.2; simpa using this) (by omega) (by omega) (by omega); have HS14 := Lib.hid (show serS (k + 1 + 1) (upd P (k + 1) (⟨10 * (k : Int), 10 * (k : Int), 9000 + x14⟩ : Po)) ∧ (upd P (k + 1) (⟨10 * (k : Int), 10 * (k : Int), 9000 + x14⟩ : Po) (k + 1)).n ≤ 10 * ((k + 1 : Nat) : Int) from ⟨ser14, by rw [upd_same]; show 10 * (k : Int) ≤ _; omega⟩); clear ser14)
      | (go_at_call 35; refine (sPublishN w14 D (k + 1) cD P (⟨10 * (k : Int), 10 * (k : Int), 9000 + x14⟩ : Po) (RdPo.own onw14) (onw14.none_no (by omega)) (by omega) (fun _ _ => by omega) hser.out.1.ok HS14.out.1.ok).mono ?_; rintro e w15 ⟨D', cD', rfl, onw', hb15⟩; have bs15 := bs14.below hb15 bs14.lt; have bx15 := bx14.below hb15 bx14.lt; have ha15 := ha14.below hb15 ha14.lt; have hq15 := hq14.below hb15 hq14.lt; have own15 := own14.all hb15; have onw15 := onw14.all hb15; have hc15 := hc14.kept hb15; have hB15 : Below w.heap.size w w15 := hB14.trans (hb15.mono hB14.size); have hs15 : w14.heap.size ≤ w15.heap.size := hb15.size; have hsz15 : bx < w15.heap.size := (by omega); have ws15 : w.heap.size ≤ w14.heap.size := hB14.size; clear hb15 bs14 bx14 ha14 hq14 own14 onw14 hB14 hc14; have cb15 : w15.cell? ⟨bx, 0, none⟩ = some (.slice D (k + 1) cD) := bx15.cell 0; have fb15 := bx15.free 0))
        all_goals
          go_wp2_with fail
          go_roundw
          case rel =>
            refine ⟨k + 1, C', D', cC', cD', L', _, by omega, by go_num, HP, HS14, bs15.far (by simp; omega) _, by simpa using bx15.put 0 (.slice D' (k + 1 + 1) cD'), ha15.far (by simp; omega) _, hq15.far (by simp; omega) _, ?_, ?_, ?_, by simp; omega, hB15.setCell (by simp; omega) _⟩
            · exact own15.kept (grownBy_setCell' w15 bx _) (own15.apart bx15 (by decide))
            · exact (onw'.less ws15).kept (grownBy_setCell' w15 bx _) (onw'.apart bx15 (by decide))
            · exact hc15.grown (grownBy_setCell' w15 bx _) (by intro e; injection e; omega) (fun q hq => by injection hq; omega)
          case measure => simp [intOf]; omega
    · have cb8 : w8.cell? ⟨bs, 0, none⟩ = some (.slice C (k + 1) cC) := bs8.cell 0
      have cx8 : w8.cell? ⟨bx, 0, none⟩ = some (.slice D (k + 1) cD) := bx8.cell 0
      have ca8 : w8.cell? ⟨w.heap.size, 0, none⟩ = some (.slice none 0 0) := ha8.cell 0
      have cq8 : w8.cell? ⟨w.heap.size + 1, 0, none⟩ = some (.slice none 0 0) := hq8.cell 0
      have fa8 := ha8.free 0
      have fq8 := hq8.free 0
      have cb8d : w8.drew.cell? ⟨bs, 0, none⟩ = some (.slice C (k + 1) cC) := cb8
      have cx8d : w8.drew.cell? ⟨bx, 0, none⟩ = some (.slice D (k + 1) cD) := cx8
      have ca8d : w8.drew.cell? ⟨w.heap.size, 0, none⟩ = some (.slice none 0 0) := ca8
      have cq8d : w8.drew.cell? ⟨w.heap.size + 1, 0, none⟩ = some (.slice none 0 0) := cq8
      have zz1 : ¬ w.heap.size = w.heap.size + 1 := by omega
      go_wp2_with fail
      go_region
      all_goals go_wp2_with fail
      all_goals refine bodyPost_ret (v := .tuple #[.agg #[.slice C (k + 1) cC], .agg #[.slice D (k + 1) cD]]) (by simp [results, Try.results12, go_sem, *]) rfl ⟨C, D, k + 1, k + 1, cC, cD, L, rfl, hpay.out.1, ?_, ?_⟩
      all_goals first | ((repeat (first | (with_reducible exact Below.refl _ _) | (with_reducible assumption) | (with_reducible refine Below.drew ?_) | (with_reducible refine below_drewN ?_ _) | ((with_reducible refine Below.setCell ?_ ?_ _); rotate_left; focus (first | (simp; done) | omega | (simp; omega))) | ((with_reducible refine Below.alloc ?_ ?_ _); rotate_left; focus (first | exact Nat.le_refl _ | omega | (simp; done) | (simp; omega))))); done) | exact RdFa_drew (RdFa.own (owr_two own8 ha8 hq8 (by omega) (by decide) (by decide))) | exact RdFa_drew (RdFa.own (owr_two own8 hq8 ha8 (by omega) (by decide) (by decide)))
end Go.Proofs.Ytondmakaednpdaa
