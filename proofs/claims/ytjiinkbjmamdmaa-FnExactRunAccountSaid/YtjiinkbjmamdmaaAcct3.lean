/- The given statements of the account: its interest and its first arrears. No conditions. -/
import Derived.Test.YtjiinkbjmamdmaaAcct2
namespace Go.Proofs.Ytjiinkbjmamdmaa
open Go.RowKit

set_option maxHeartbeats 1600000 in
theorem walkInterestIn (A : Option Addr) (n c : Nat) (zs : List Int) (A' : Option Addr) (n' c' : Nat) (zs' : List Int) (r : Int) (w : World) (ha : ArgInts .i64 w A n c zs) (hp : ArgInts .i64 w A' n' c' zs') :
    Calls Try.prog 10 #[.slice A n c, .slice A' n' c', .int .i64 r] w fun e w' => e = .returned (.bool true) ∧ Below w.heap.size w w' := by
  have hd := RdI.arg ha
  have hpd := RdI.arg hp
  have hn := hd.1
  have hn' := hpd.1
  obtain ⟨d, hdz⟩ : ∃ d : Nat → Int, d = fun i => zs.getD i 0 := ⟨_, rfl⟩
  obtain ⟨p, hpz⟩ : ∃ p : Nat → Int, p = fun i => zs'.getD i 0 := ⟨_, rfl⟩
  rw [← hdz] at hd
  rw [← hpz] at hpd
  clear hdz hpz ha hp
  by_cases t1 : (1048576 : Int) < n
  · go_enter Try.func10, Try.ntmps10
    go_wp2_with fail
    go_ret
    exact ⟨rfl, Below.refl _ _⟩
  by_cases t2 : (1048576 : Int) < n'
  · go_enter Try.func10, Try.ntmps10
    go_wp2_with fail
    go_ret
    exact ⟨rfl, Below.refl _ _⟩
  go_enter Try.func10, Try.ntmps10
  go_wp2_with fail
  refine (toInts w A n c _ hd (by omega)).mono ?_
  rintro e w1 ⟨g1, rfl, rowg1, lowg1, hb1⟩
  have hs1 := hb1.size
  have ltg1 : g1 < w1.heap.size := rowg1.lt
  have hg1 := RdI.row rowg1 ltg1 (by omega)
  replace hd := (hd.below hb1).more hs1
  replace hpd := (hpd.below hb1).more hs1
  have hB1 : Below w.heap.size w w1 := (Below.refl w.heap.size w).trans (hb1.mono (by omega))
  go_wp2_with fail
  refine (toInts w1 A' n' c' _ hpd (by omega)).mono ?_
  rintro e w2 ⟨g2, rfl, rowg2, lowg2, hb2⟩
  have hs2 := hb2.size
  have ltg2 : g2 < w2.heap.size := rowg2.lt
  have hg2 := RdI.row rowg2 ltg2 (by omega)
  replace hd := (hd.below hb2).more hs2
  replace hpd := (hpd.below hb2).more hs2
  replace hg1 := (hg1.below hb2).more hs2
  have hB2 : Below w.heap.size w w2 := hB1.trans (hb2.mono (by omega))
  go_wp2_with fail
  refine (sInterest w2 _ _ n n' n n' _ _ r hg1 hg2).mono ?_
  rintro e w3 ⟨rfl, hb3⟩
  have hs3 := hb3.size
  replace hd := (hd.below hb3).more hs3
  replace hpd := (hpd.below hb3).more hs3
  have hB3 : Below w.heap.size w w3 := hB2.trans (hb3.mono (by omega))
  go_wp2_with fail
  refine (toInts w3 A n c _ hd (by omega)).mono ?_
  rintro e w4 ⟨g4, rfl, rowg4, lowg4, hb4⟩
  have hs4 := hb4.size
  have ltg4 : g4 < w4.heap.size := rowg4.lt
  have hg4 := RdI.row rowg4 ltg4 (by omega)
  replace hd := (hd.below hb4).more hs4
  replace hpd := (hpd.below hb4).more hs4
  have hB4 : Below w.heap.size w w4 := hB3.trans (hb4.mono (by omega))
  go_wp2_with fail
  refine (toInts w4 A' n' c' _ hpd (by omega)).mono ?_
  rintro e w5 ⟨g5, rfl, rowg5, lowg5, hb5⟩
  have hs5 := hb5.size
  have ltg5 : g5 < w5.heap.size := rowg5.lt
  have hg5 := RdI.row rowg5 ltg5 (by omega)
  replace hd := (hd.below hb5).more hs5
  replace hpd := (hpd.below hb5).more hs5
  replace hg4 := (hg4.below hb5).more hs5
  have hB5 : Below w.heap.size w w5 := hB4.trans (hb5.mono (by omega))
  go_wp2_with fail
  refine (iInterest w5 _ _ n n' n n' _ _ r hg4 hg5).mono ?_
  rintro e w6 ⟨rfl, hb6⟩
  have hs6 := hb6.size
  replace hd := (hd.below hb6).more hs6
  replace hpd := (hpd.below hb6).more hs6
  replace hg4 := (hg4.below hb6).more hs6
  replace hg5 := (hg5.below hb6).more hs6
  have hB6 : Below w.heap.size w w6 := hB5.trans (hb6.mono (by omega))
  go_wp2_with fail
  refine (toInts w6 A n c _ hd (by omega)).mono ?_
  rintro e w7 ⟨g7, rfl, rowg7, lowg7, hb7⟩
  have hs7 := hb7.size
  have ltg7 : g7 < w7.heap.size := rowg7.lt
  have hg7 := RdI.row rowg7 ltg7 (by omega)
  replace hd := (hd.below hb7).more hs7
  replace hpd := (hpd.below hb7).more hs7
  replace hg4 := (hg4.below hb7).more hs7
  replace hg5 := (hg5.below hb7).more hs7
  have hB7 : Below w.heap.size w w7 := hB6.trans (hb7.mono (by omega))
  go_wp2_with fail
  refine (eqInts w7 (some ⟨g4, 0, none⟩) (some ⟨g7, 0, none⟩) n n n n _ _ hg4 hg7 ⟨rfl, fun _ _ => rfl⟩).mono ?_
  rintro e w8 ⟨rfl, hb8⟩
  have hs8 := hb8.size
  replace hpd := (hpd.below hb8).more hs8
  replace hg5 := (hg5.below hb8).more hs8
  have hB8 : Below w.heap.size w w8 := hB7.trans (hb8.mono (by omega))
  go_wp2_with fail
  refine (toInts w8 A' n' c' _ hpd (by omega)).mono ?_
  rintro e w9 ⟨g9, rfl, rowg9, lowg9, hb9⟩
  have hs9 := hb9.size
  have ltg9 : g9 < w9.heap.size := rowg9.lt
  have hg9 := RdI.row rowg9 ltg9 (by omega)
  replace hg5 := (hg5.below hb9).more hs9
  have hB9 : Below w.heap.size w w9 := hB8.trans (hb9.mono (by omega))
  go_wp2_with fail
  refine (eqInts w9 (some ⟨g5, 0, none⟩) (some ⟨g9, 0, none⟩) n' n' n' n' _ _ hg5 hg9 ⟨rfl, fun _ _ => rfl⟩).mono ?_
  rintro e w10 ⟨rfl, hb10⟩
  have hs10 := hb10.size
  have hB10 : Below w.heap.size w w10 := hB9.trans (hb10.mono (by omega))
  go_wp2_with fail
  go_ret
  exact ⟨rfl, hB10⟩

set_option maxHeartbeats 1600000 in
theorem walkFirstArrears (A : Option Addr) (n c : Nat) (zs : List Int) (A' : Option Addr) (n' c' : Nat) (zs' : List Int) (r : Int) (w : World) (ha : ArgInts .i64 w A n c zs) (hp : ArgInts .i64 w A' n' c' zs') :
    Calls Try.prog 11 #[.slice A n c, .slice A' n' c', .int .i64 r] w fun e w' => e = .returned (.bool true) ∧ Below w.heap.size w w' := by
  have hd := RdI.arg ha
  have hpd := RdI.arg hp
  have hn := hd.1
  have hn' := hpd.1
  obtain ⟨d, hdz⟩ : ∃ d : Nat → Int, d = fun i => zs.getD i 0 := ⟨_, rfl⟩
  obtain ⟨p, hpz⟩ : ∃ p : Nat → Int, p = fun i => zs'.getD i 0 := ⟨_, rfl⟩
  rw [← hdz] at hd
  rw [← hpz] at hpd
  clear hdz hpz ha hp
  by_cases t1 : (1048576 : Int) < n
  · go_enter Try.func11, Try.ntmps11
    go_wp2_with fail
    go_ret
    exact ⟨rfl, Below.refl _ _⟩
  by_cases t2 : (1048576 : Int) < n'
  · go_enter Try.func11, Try.ntmps11
    go_wp2_with fail
    go_ret
    exact ⟨rfl, Below.refl _ _⟩
  go_enter Try.func11, Try.ntmps11
  go_wp2_with fail
  refine (toInts w A n c _ hd (by omega)).mono ?_
  rintro e w1 ⟨g1, rfl, rowg1, lowg1, hb1⟩
  have hs1 := hb1.size
  have ltg1 : g1 < w1.heap.size := rowg1.lt
  have hg1 := RdI.row rowg1 ltg1 (by omega)
  replace hd := (hd.below hb1).more hs1
  replace hpd := (hpd.below hb1).more hs1
  have hB1 : Below w.heap.size w w1 := (Below.refl w.heap.size w).trans (hb1.mono (by omega))
  go_wp2_with fail
  refine (toInts w1 A' n' c' _ hpd (by omega)).mono ?_
  rintro e w2 ⟨g2, rfl, rowg2, lowg2, hb2⟩
  have hs2 := hb2.size
  have ltg2 : g2 < w2.heap.size := rowg2.lt
  have hg2 := RdI.row rowg2 ltg2 (by omega)
  replace hd := (hd.below hb2).more hs2
  replace hpd := (hpd.below hb2).more hs2
  replace hg1 := (hg1.below hb2).more hs2
  have hB2 : Below w.heap.size w w2 := hB1.trans (hb2.mono (by omega))
  go_wp2_with fail
  refine (sFirst w2 _ _ n n' n n' _ _ r hg1 hg2).mono ?_
  rintro e w3 ⟨rfl, hb3⟩
  have hs3 := hb3.size
  replace hd := (hd.below hb3).more hs3
  replace hpd := (hpd.below hb3).more hs3
  have hB3 : Below w.heap.size w w3 := hB2.trans (hb3.mono (by omega))
  go_wp2_with fail
  refine (toInts w3 A n c _ hd (by omega)).mono ?_
  rintro e w4 ⟨g4, rfl, rowg4, lowg4, hb4⟩
  have hs4 := hb4.size
  have ltg4 : g4 < w4.heap.size := rowg4.lt
  have hg4 := RdI.row rowg4 ltg4 (by omega)
  replace hd := (hd.below hb4).more hs4
  replace hpd := (hpd.below hb4).more hs4
  have hB4 : Below w.heap.size w w4 := hB3.trans (hb4.mono (by omega))
  go_wp2_with fail
  refine (toInts w4 A' n' c' _ hpd (by omega)).mono ?_
  rintro e w5 ⟨g5, rfl, rowg5, lowg5, hb5⟩
  have hs5 := hb5.size
  have ltg5 : g5 < w5.heap.size := rowg5.lt
  have hg5 := RdI.row rowg5 ltg5 (by omega)
  replace hd := (hd.below hb5).more hs5
  replace hpd := (hpd.below hb5).more hs5
  replace hg4 := (hg4.below hb5).more hs5
  have hB5 : Below w.heap.size w w5 := hB4.trans (hb5.mono (by omega))
  go_wp2_with fail
  refine (iFirst w5 _ _ n n' n n' _ _ r hg4 hg5).mono ?_
  rintro e w6 ⟨rfl, hb6⟩
  have hs6 := hb6.size
  replace hd := (hd.below hb6).more hs6
  replace hpd := (hpd.below hb6).more hs6
  replace hg4 := (hg4.below hb6).more hs6
  replace hg5 := (hg5.below hb6).more hs6
  have hB6 : Below w.heap.size w w6 := hB5.trans (hb6.mono (by omega))
  go_wp2_with fail
  refine (toInts w6 A n c _ hd (by omega)).mono ?_
  rintro e w7 ⟨g7, rfl, rowg7, lowg7, hb7⟩
  have hs7 := hb7.size
  have ltg7 : g7 < w7.heap.size := rowg7.lt
  have hg7 := RdI.row rowg7 ltg7 (by omega)
  replace hd := (hd.below hb7).more hs7
  replace hpd := (hpd.below hb7).more hs7
  replace hg4 := (hg4.below hb7).more hs7
  replace hg5 := (hg5.below hb7).more hs7
  have hB7 : Below w.heap.size w w7 := hB6.trans (hb7.mono (by omega))
  go_wp2_with fail
  refine (eqInts w7 (some ⟨g4, 0, none⟩) (some ⟨g7, 0, none⟩) n n n n _ _ hg4 hg7 ⟨rfl, fun _ _ => rfl⟩).mono ?_
  rintro e w8 ⟨rfl, hb8⟩
  have hs8 := hb8.size
  replace hpd := (hpd.below hb8).more hs8
  replace hg5 := (hg5.below hb8).more hs8
  have hB8 : Below w.heap.size w w8 := hB7.trans (hb8.mono (by omega))
  go_wp2_with fail
  refine (toInts w8 A' n' c' _ hpd (by omega)).mono ?_
  rintro e w9 ⟨g9, rfl, rowg9, lowg9, hb9⟩
  have hs9 := hb9.size
  have ltg9 : g9 < w9.heap.size := rowg9.lt
  have hg9 := RdI.row rowg9 ltg9 (by omega)
  replace hg5 := (hg5.below hb9).more hs9
  have hB9 : Below w.heap.size w w9 := hB8.trans (hb9.mono (by omega))
  go_wp2_with fail
  refine (eqInts w9 (some ⟨g5, 0, none⟩) (some ⟨g9, 0, none⟩) n' n' n' n' _ _ hg5 hg9 ⟨rfl, fun _ _ => rfl⟩).mono ?_
  rintro e w10 ⟨rfl, hb10⟩
  have hs10 := hb10.size
  have hB10 : Below w.heap.size w w10 := hB9.trans (hb10.mono (by omega))
  go_wp2_with fail
  go_ret
  exact ⟨rfl, hB10⟩
end Go.Proofs.Ytjiinkbjmamdmaa
