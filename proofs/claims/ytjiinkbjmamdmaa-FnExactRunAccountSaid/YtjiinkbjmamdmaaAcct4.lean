/- The given statement of the account's balances. No conditions. -/
import Derived.Test.YtjiinkbjmamdmaaAcct3
namespace Go.Proofs.Ytjiinkbjmamdmaa
open Go.RowKit

theorem grown_none {w w' : World} (h : Below w.heap.size w w') : w.grownBy w' none := ⟨h.os, h.tape, h.output, h.size, fun k hk _ => h.block k hk⟩
theorem own_below {w w' : World} {base size n : Nat} {e : TypeId} {v : Value} {xs : List Value} (h : w.ownsRow base e size v n xs) (hb : Below w.heap.size w w') : w'.ownsRow base e size v n xs :=
  h.kept (grown_none hb) (by cases v.ownBlock <;> simp)
theorem own_ints {w : World} {g n base : Nat} {t : TypeId} {z : Nat → Int} (h : w.rowIs g t n (fun i => .int .i64 (z i))) (hg : base ≤ g) (hn : n ≤ maxLen) :
    w.ownsRow base t 1 (.slice (some ⟨g, 0, none⟩) n n) n (((List.range n).map z).map (Value.int .i64)) := by
  rw [List.map_map]
  exact own_of_row h hg hn
/-- What is owned above B lies apart from a block below it. -/
theorem own_other {w w' : World} {base size n g : Nat} {e : TypeId} {v : Value} {xs : List Value} (h : w.ownsRow base e size v n xs) (hg : w.grownBy w' (some g)) (hne : g < base) : w'.ownsRow base e size v n xs :=
  h.kept hg (.inr fun e => by have := (h.lt g e).1; omega)

set_option maxHeartbeats 3200000 in
theorem walkRunAccount (A : Option Addr) (n c : Nat) (zs : List Int) (A' : Option Addr) (n' c' : Nat) (zs' : List Int) (r : Int) (w : World) (ha : ArgInts .i64 w A n c zs) (hp : ArgInts .i64 w A' n' c' zs') :
    Calls Try.prog 12 #[.slice A n c, .slice A' n' c', .int .i64 r] w fun e w' => e = .returned (.bool true) ∧ Below w.heap.size w w' := by
  have hd := RdI.arg ha
  have hpd := RdI.arg hp
  have hn := hd.1
  have hn' := hpd.1
  obtain ⟨d, hdz⟩ : ∃ d : Nat → Int, d = fun i => zs.getD i 0 := ⟨_, rfl⟩
  obtain ⟨p, hpz⟩ : ∃ p : Nat → Int, p = fun i => zs'.getD i 0 := ⟨_, rfl⟩
  rw [← hdz] at hd
  rw [← hpz] at hpd
  clear hdz hpz ha hp
  by_cases t1 : (1048576 : Int) < n
  · go_enter Try.func12, Try.ntmps12
    go_wp2_with fail
    go_ret
    exact ⟨rfl, Below.refl _ _⟩
  by_cases t2 : (1048576 : Int) < n'
  · go_enter Try.func12, Try.ntmps12
    go_wp2_with fail
    go_ret
    exact ⟨rfl, Below.refl _ _⟩
  have hm := accList_len n n' d p r
  obtain ⟨ls, hls⟩ : ∃ ls, ls = accList n n' d p r := ⟨_, rfl⟩
  have CS : ∀ (v : World) (g g' : Nat), RdI v v.heap.size (some ⟨g, 0, none⟩) n d → RdI v v.heap.size (some ⟨g', 0, none⟩) n' p → Calls Try.prog 40 #[.slice (some ⟨g, 0, none⟩) n n, .slice (some ⟨g', 0, none⟩) n' n', .int .i64 r] v fun e w' => ∃ (B : Option Addr) (cc : Nat), e = .returned (.slice B ls.length cc) ∧ w'.ownsRow v.heap.size 3 1 (.slice B ls.length cc) ls.length (ls.map (Value.int .i64)) ∧ Below v.heap.size v w' := fun v g g' h h' => hls ▸ sRunAccount v _ _ n n' n n' d p r h h'
  have CI : ∀ (v : World) (g g' : Nat), RdI v v.heap.size (some ⟨g, 0, none⟩) n d → RdI v v.heap.size (some ⟨g', 0, none⟩) n' p → Calls Try.prog 33 #[.slice (some ⟨g, 0, none⟩) n n, .slice (some ⟨g', 0, none⟩) n' n', .int .i64 r] v fun e w' => ∃ (B : Option Addr) (cc : Nat), e = .returned (.slice B ls.length cc) ∧ w'.ownsRow v.heap.size 3 1 (.slice B ls.length cc) ls.length (ls.map (Value.int .i64)) ∧ Below v.heap.size v w' := fun v g g' h h' => hls ▸ iRun v _ _ n n' n n' d p r h h'
  rw [← hls] at hm
  clear hls
  go_enter Try.func12, Try.ntmps12
  go_wp2_with fail
  refine (toInts w A n c _ hd (by omega)).mono ?_
  rintro e w1 ⟨g1, rfl, rowg1, lowg1, hb1⟩
  have hs1 := hb1.size
  have ltg1 : g1 < w1.heap.size := rowg1.lt
  have hg1 := RdI.row rowg1 ltg1 (by omega)
  have hB1 : Below w.heap.size w w1 := (Below.refl w.heap.size w).trans (hb1.mono (by omega))
  go_wp2_with fail
  refine (toInts w1 A' n' c' _ ((hpd.below hB1).more hB1.size) (by omega)).mono ?_
  rintro e w2 ⟨g2, rfl, rowg2, lowg2, hb2⟩
  have hs2 := hb2.size
  have ltg2 : g2 < w2.heap.size := rowg2.lt
  have hg2 := RdI.row rowg2 ltg2 (by omega)
  replace hg1 := (hg1.below hb2).more hs2
  have hB2 : Below w.heap.size w w2 := hB1.trans (hb2.mono (by omega))
  go_wp2_with fail
  refine (CS w2 g1 g2 hg1 hg2).mono ?_
  rintro e w3 ⟨C, c3, rfl, ownW, hb3⟩
  have hs3 := hb3.size
  have hB3 : Below w.heap.size w w3 := hB2.trans (hb3.mono (by omega))
  have hW := RdI.own ownW (by omega)
  clear ownW
  go_wp2_with fail
  refine (toInts w3 A n c _ ((hd.below hB3).more hB3.size) (by omega)).mono ?_
  rintro e w4 ⟨g4, rfl, rowg4, lowg4, hb4⟩
  have hs4 := hb4.size
  have ltg4 : g4 < w4.heap.size := rowg4.lt
  have hg4 := RdI.row rowg4 ltg4 (by omega)
  have hB4 : Below w.heap.size w w4 := hB3.trans (hb4.mono (by omega))
  have hC4 : Below w3.heap.size w3 w4 := hb4
  have own4 := own_ints rowg4 lowg4 (by unfold maxLen; omega)
  go_wp2_with fail
  refine (toInts w4 A' n' c' _ ((hpd.below hB4).more hB4.size) (by omega)).mono ?_
  rintro e w5 ⟨g5, rfl, rowg5, lowg5, hb5⟩
  have hs5 := hb5.size
  have ltg5 : g5 < w5.heap.size := rowg5.lt
  have hg5 := RdI.row rowg5 ltg5 (by omega)
  replace hg4 := (hg4.below hb5).more hs5
  replace own4 := own_below own4 hb5
  have hB5 : Below w.heap.size w w5 := hB4.trans (hb5.mono (by omega))
  have hC5 : Below w3.heap.size w3 w5 := hC4.trans (hb5.mono (by omega))
  have own5 := own_ints rowg5 lowg5 (by unfold maxLen; omega)
  go_wp2_with fail
  refine (CI w5 g4 g5 hg4 hg5).mono ?_
  rintro e w6 ⟨B, cc, rfl, ownG, hb6⟩
  have hs6 := hb6.size
  replace hg4 := (hg4.below hb6).more hs6
  replace hg5 := (hg5.below hb6).more hs6
  replace own4 := own_below own4 hb6
  replace own5 := own_below own5 hb6
  have hB6 : Below w.heap.size w w6 := hB5.trans (hb6.mono (by omega))
  have hC6 : Below w3.heap.size w3 w6 := hC5.trans (hb6.mono (by omega))
  go_wp2_with fail
  refine (eqInts w6 B C ls.length ls.length cc c3 _ _ (RdI.own ownG (by omega)) ((hW.below hC6).more hC6.size) ⟨rfl, fun _ _ => rfl⟩).mono ?_
  rintro e w7 ⟨rfl, hb7⟩
  have hs7 := hb7.size
  replace hg4 := (hg4.below hb7).more hs7
  replace hg5 := (hg5.below hb7).more hs7
  replace own4 := own_below own4 hb7
  replace own5 := own_below own5 hb7
  replace ownG := own_below ownG hb7
  have hB7 : Below w.heap.size w w7 := hB6.trans (hb7.mono (by omega))
  have hC7 : Below w3.heap.size w3 w7 := hC6.trans (hb7.mono (by omega))
  go_wp2_with fail
  refine (toInts w7 A n c _ ((hd.below hB7).more hB7.size) (by omega)).mono ?_
  rintro e w8 ⟨g8, rfl, rowg8, lowg8, hb8⟩
  have hs8 := hb8.size
  have ltg8 : g8 < w8.heap.size := rowg8.lt
  have hg8 := RdI.row rowg8 ltg8 (by omega)
  replace hg4 := (hg4.below hb8).more hs8
  replace hg5 := (hg5.below hb8).more hs8
  replace own4 := own_below own4 hb8
  replace own5 := own_below own5 hb8
  replace ownG := own_below ownG hb8
  have hB8 : Below w.heap.size w w8 := hB7.trans (hb8.mono (by omega))
  have hC8 : Below w3.heap.size w3 w8 := hC7.trans (hb8.mono (by omega))
  go_wp2_with fail
  refine (eqInts w8 (some ⟨g4, 0, none⟩) (some ⟨g8, 0, none⟩) n n n n _ _ hg4 hg8 ⟨rfl, fun _ _ => rfl⟩).mono ?_
  rintro e w9 ⟨rfl, hb9⟩
  have hs9 := hb9.size
  replace hg5 := (hg5.below hb9).more hs9
  replace own4 := own_below own4 hb9
  replace own5 := own_below own5 hb9
  replace ownG := own_below ownG hb9
  have hB9 : Below w.heap.size w w9 := hB8.trans (hb9.mono (by omega))
  have hC9 : Below w3.heap.size w3 w9 := hC8.trans (hb9.mono (by omega))
  go_wp2_with fail
  refine (toInts w9 A' n' c' _ ((hpd.below hB9).more hB9.size) (by omega)).mono ?_
  rintro e w10 ⟨g10, rfl, rowg10, lowg10, hb10⟩
  have hs10 := hb10.size
  have ltg10 : g10 < w10.heap.size := rowg10.lt
  have hg10 := RdI.row rowg10 ltg10 (by omega)
  replace hg5 := (hg5.below hb10).more hs10
  replace own4 := own_below own4 hb10
  replace own5 := own_below own5 hb10
  replace ownG := own_below ownG hb10
  have hB10 : Below w.heap.size w w10 := hB9.trans (hb10.mono (by omega))
  have hC10 : Below w3.heap.size w3 w10 := hC9.trans (hb10.mono (by omega))
  go_wp2_with fail
  refine (eqInts w10 (some ⟨g5, 0, none⟩) (some ⟨g10, 0, none⟩) n' n' n' n' _ _ hg5 hg10 ⟨rfl, fun _ _ => rfl⟩).mono ?_
  rintro e w11 ⟨rfl, hb11⟩
  have hs11 := hb11.size
  replace own4 := own_below own4 hb11
  replace own5 := own_below own5 hb11
  replace ownG := own_below ownG hb11
  have hB11 : Below w.heap.size w w11 := hB10.trans (hb11.mono (by omega))
  have hC11 : Below w3.heap.size w3 w11 := hC10.trans (hb11.mono (by omega))
  clear hg4 hg5 rowg4 rowg5
  go_wp2_with fail
  refine (markInts w11 w3.heap.size (some ⟨g4, 0, none⟩) n n _ 1 own4 (by omega) (by omega) (by omega)).mono ?_
  rintro e w12 ⟨rfl, own4, hg12⟩
  have hs12 := hg12.size
  replace hg12 : w11.grownBy w12 (some g4) := hg12
  replace own5 := own_other own5 hg12 (by omega)
  replace ownG := own_other ownG hg12 (by omega)
  have hB12 : Below w.heap.size w w12 := hB11.grown hg12 hB11.size (fun q hq => by injection hq; omega)
  have hC12 : Below w3.heap.size w3 w12 := hC11.grown hg12 hC11.size (fun q hq => by injection hq; omega)
  clear own4
  go_wp2_with fail
  refine (markInts w12 w4.heap.size (some ⟨g5, 0, none⟩) n' n' _ (1 + n) own5 (by omega) (by omega) (by omega)).mono ?_
  rintro e w13 ⟨rfl, own5, hg13⟩
  have hs13 := hg13.size
  replace hg13 : w12.grownBy w13 (some g5) := hg13
  replace ownG := own_other ownG hg13 (by omega)
  have hB13 : Below w.heap.size w w13 := hB12.grown hg13 hB12.size (fun q hq => by injection hq; omega)
  have hC13 : Below w3.heap.size w3 w13 := hC12.grown hg13 hC12.size (fun q hq => by injection hq; omega)
  clear own5
  go_wp2_with fail
  refine (eqInts w13 B C ls.length ls.length cc c3 _ _ (RdI.own ownG (by omega)) ((hW.below hC13).more hC13.size) ⟨rfl, fun _ _ => rfl⟩).mono ?_
  rintro e w14 ⟨rfl, hb14⟩
  have hs14 := hb14.size
  replace ownG := own_below ownG hb14
  have hB14 : Below w.heap.size w w14 := hB13.trans (hb14.mono (by omega))
  have hC14 : Below w3.heap.size w3 w14 := hC13.trans (hb14.mono (by omega))
  go_wp2_with fail
  have own14 := ownG
  refine (markInts w14 w5.heap.size B ls.length cc ls 1 ownG (by omega) (by omega) (by omega)).mono ?_
  rintro e w15 ⟨rfl, ownG, hg15⟩
  have hs15 := hg15.size
  have hB15 : Below w.heap.size w w15 := hB14.grown hg15 hB14.size (fun q hq => Nat.le_trans (by omega) (own14.lt q hq).1)
  have hC15 : Below w3.heap.size w3 w15 := hC14.grown hg15 hC14.size (fun q hq => Nat.le_trans (by omega) (own14.lt q hq).1)
  clear own14
  go_wp2_with fail
  refine (heldInts w15 w5.heap.size B ls.length cc 1 ownG (by omega) (by omega) (by omega)).mono ?_
  rintro e w' ⟨rfl, rfl⟩
  go_wp2_with fail
  refine (toInts w15 A n c _ ((hd.below hB15).more hB15.size) (by omega)).mono ?_
  rintro e w16 ⟨g16, rfl, rowg16, lowg16, hb16⟩
  have hs16 := hb16.size
  have ltg16 : g16 < w16.heap.size := rowg16.lt
  have hg16 := RdI.row rowg16 ltg16 (by omega)
  replace ownG := own_below ownG hb16
  have hB16 : Below w.heap.size w w16 := hB15.trans (hb16.mono (by omega))
  have hC16 : Below w3.heap.size w3 w16 := hC15.trans (hb16.mono (by omega))
  go_wp2_with fail
  refine (toInts w16 A' n' c' _ ((hpd.below hB16).more hB16.size) (by omega)).mono ?_
  rintro e w17 ⟨g17, rfl, rowg17, lowg17, hb17⟩
  have hs17 := hb17.size
  have ltg17 : g17 < w17.heap.size := rowg17.lt
  have hg17 := RdI.row rowg17 ltg17 (by omega)
  replace hg16 := (hg16.below hb17).more hs17
  replace ownG := own_below ownG hb17
  have hB17 : Below w.heap.size w w17 := hB16.trans (hb17.mono (by omega))
  have hC17 : Below w3.heap.size w3 w17 := hC16.trans (hb17.mono (by omega))
  go_wp2_with fail
  refine (CI w17 g16 g17 hg16 hg17).mono ?_
  rintro e w18 ⟨H, ch, rfl, ownH, hb18⟩
  have hs18 := hb18.size
  replace ownG := own_below ownG hb18
  have hB18 : Below w.heap.size w w18 := hB17.trans (hb18.mono (by omega))
  have hC18 : Below w3.heap.size w3 w18 := hC17.trans (hb18.mono (by omega))
  go_wp2_with fail
  refine (eqInts w18 H C ls.length ls.length ch c3 _ _ (RdI.own ownH (by omega)) ((hW.below hC18).more hC18.size) ⟨rfl, fun _ _ => rfl⟩).mono ?_
  rintro e w19 ⟨rfl, hb19⟩
  have hs19 := hb19.size
  replace ownG := own_below ownG hb19
  have hB19 : Below w.heap.size w w19 := hB18.trans (hb19.mono (by omega))
  have hC19 : Below w3.heap.size w3 w19 := hC18.trans (hb19.mono (by omega))
  go_wp2_with fail
  refine (heldInts w19 w5.heap.size B ls.length cc 1 ownG (by omega) (by omega) (by omega)).mono ?_
  rintro e w' ⟨rfl, rfl⟩
  go_wp2_with fail
  go_ret
  exact ⟨rfl, hB19⟩
end Go.Proofs.Ytjiinkbjmamdmaa
