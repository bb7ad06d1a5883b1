/- The gaps of a book, of the program and of the reference. Conditions: the rules can be read. -/
import Derived.Test.YtjnckhdmaebfdaaRuleFor
import Derived.Maps.AppendAt
namespace Go.Proofs.Ytjnckhdmaebfdaa
open Go.RowKit

/-- The months without a rule, of the first k from a on. -/
def gapF (m : Nat) (R : Nat → Rn) (name jo a : Int) : Nat → List Int
  | 0 => []
  | k + 1 => if (ruBest R name (a + (k : Int)) jo m).isNone = true then gapF m R name jo a k ++ [a + (k : Int)] else gapF m R name jo a k
def gapL (m : Nat) (R : Nat → Rn) (name jo a b : Int) : List Int := if (bookB m R && (endB a && endB b)) = true then gapF m R name jo a (b - a).toNat else []
theorem gapF_len (m : Nat) (R : Nat → Rn) (name jo a : Int) : ∀ k, (gapF m R name jo a k).length ≤ k
  | 0 => Nat.le_refl _
  | k + 1 => by
    have ih := gapF_len m R name jo a k
    rw [gapF]
    split
    · rw [List.length_append]; simp; omega
    · omega
theorem gapF_same {m : Nat} {R R' : Nat → Rn} (h : sameR R R' m) (name jo a : Int) : ∀ k, gapF m R' name jo a k = gapF m R name jo a k
  | 0 => rfl
  | k + 1 => by rw [gapF, gapF, gapF_same h name jo a k, ruBest_same h _ _ _ m (Nat.le_refl _)]
theorem gapL_same {m : Nat} {R R' : Nat → Rn} (h : sameR R R' m) (name jo a b : Int) : gapL m R' name jo a b = gapL m R name jo a b := by
  rw [gapL, gapL, bookB_same h, gapF_same h]
theorem gapL_len (m : Nat) (R : Nat → Rn) (name jo a b : Int) : (gapL m R name jo a b).length ≤ 3600 := by
  rw [gapL]
  split
  · rename_i h
    simp only [Bool.and_eq_true, endB, inB_iff] at h
    have := gapF_len m R name jo a (b - a).toNat
    omega
  · simp
/-- An own slice of the numbers xs. -/
def OwnL (w : World) (xs : List Int) (e : Ending) (w' : World) : Prop := ∃ (B : Option Addr) (cc : Nat), e = .returned (.slice B xs.length cc) ∧ w'.ownsRow w.heap.size 3 1 (.slice B xs.length cc) xs.length (xs.map (Value.int .i64)) ∧ Below w.heap.size w w'
theorem OwnL.mk {w w' : World} {xs : List Int} {v : Value} (h : w'.ownsRow w.heap.size 3 1 v xs.length (xs.map (Value.int .i64))) (hb : Below w.heap.size w w') : OwnL w xs (.returned v) w' := by
  obtain ⟨B, cc, rfl⟩ := (OwR.of_own h).form
  exact ⟨B, cc, rfl, h, hb⟩
theorem own_block_base {w : World} {base e size m : Nat} {v : Value} {xs : List Value} (h : w.ownsRow base e size v m xs) : ∀ k, v.ownBlock = some k → base ≤ k := fun k hk => (h.lt k hk).1

set_option maxRecDepth 8000 in
set_option maxHeartbeats 3200000 in
theorem iGapsIn (w : World) (A : Option Addr) (m c : Nat) (R : Nat → Rn) (name jo a b : Int) (h : RdRu w w.heap.size A m R) (hmc : m ≤ c) (hcx : c ≤ 9223372036854775807) (hn : ∀ i, i < m → (R i).n ≤ 1099511627776) :
    Calls Try.prog 24 #[.agg #[.slice A m c], .int .i64 name, .int .i64 jo, .int .i64 a, .int .i64 b] w (OwnL w (gapL m R name jo a b)) := by
  obtain ⟨i0, hi, hz0, hz1, hz2⟩ := info_parts int_inf
  have hmx := h.1
  have hbx : Below w.heap.size w (w.alloc (.cells #[.slice A m c] 37)) := (by (repeat (first | (with_reducible exact Below.refl _ _) | (with_reducible assumption) | (with_reducible refine Below.drew ?_) | (with_reducible refine below_drewN ?_ _) | ((with_reducible refine Below.setCell ?_ ?_ _); rotate_left; focus (first | (simp; done) | omega | (simp; omega))) | ((with_reducible refine Below.alloc ?_ ?_ _); rotate_left; focus (first | exact Nat.le_refl _ | omega | (simp; done) | (simp; omega))))))
  have hx : RdRu (w.alloc (.cells #[.slice A m c] 37)) (w.alloc (.cells #[.slice A m c] 37)).heap.size A m R := (h.below hbx).more hbx.size
  have BO := fun (v : World) (hv : RdRu v v.heap.size A m R) => iBookOk v A m c R hv hmc hcx hn
  have RF : ∀ (v : World) (mo : Int), RdRu v v.heap.size A m R → bookB m R = true → Calls Try.prog 23 #[.agg #[.slice A m c], .int .i64 name, .int .i64 mo, .int .i64 jo] v fun e w' => e = .returned (.int .i64 (ruNo (ruBest R name mo jo m))) ∧ Below v.heap.size v w' := fun v mo hv hk => by
    have hh := iRuleFor v A m c R name mo jo hv hmc hcx hn
    rw [ruleForL, if_pos hk] at hh
    exact hh
  clear hn
  cases t1 : bookB m R
  · have e0 : gapL m R name jo a b = [] := by rw [gapL, if_neg (by simp [t1])]
    rw [e0]
    rw [t1] at BO
    go_enter Try.func24, Try.ntmps24
    go_wp2_with fail
    refine (BO _ hx).mono ?_
    rintro e w1 ⟨rfl, hb1⟩
    go_wp2_with fail
    go_ret
    exact OwnL.mk (xs := []) ⟨by simp, .inl ⟨rfl, rfl⟩⟩ (hbx.trans (hb1.mono (by simp; try omega)))
  · skip
    cases t2 : endB a
    · have e0 : gapL m R name jo a b = [] := by rw [gapL, if_neg (by simp [t1, t2])]
      rw [e0]
      rw [t1] at BO
      go_enter Try.func24, Try.ntmps24
      go_wp2_with fail
      refine (BO _ hx).mono ?_
      rintro e w1 ⟨rfl, hb1⟩
      go_wp2_with fail
      refine (isEnd_any _ _).mono ?_
      rintro e w' ⟨rfl, rfl⟩
      go_wp2_with fail
      go_ret
      exact OwnL.mk (xs := []) ⟨by simp, .inl ⟨rfl, rfl⟩⟩ (hbx.trans (hb1.mono (by simp; try omega)))
    · skip
      cases t3 : endB b
      · have e0 : gapL m R name jo a b = [] := by rw [gapL, if_neg (by simp [t1, t2, t3])]
        rw [e0]
        rw [t1] at BO
        go_enter Try.func24, Try.ntmps24
        go_wp2_with fail
        refine (BO _ hx).mono ?_
        rintro e w1 ⟨rfl, hb1⟩
        go_wp2_with fail
        refine (isEnd_any _ _).mono ?_
        rintro e w' ⟨rfl, rfl⟩
        go_wp2_with fail
        refine (isEnd_any _ _).mono ?_
        rintro e w' ⟨rfl, rfl⟩
        go_wp2_with fail
        go_ret
        exact OwnL.mk (xs := []) ⟨by simp, .inl ⟨rfl, rfl⟩⟩ (hbx.trans (hb1.mono (by simp; try omega)))
      · skip
        rw [t1] at BO
        have i2 := inB_iff.1 t2
        have i3 := inB_iff.1 t3
        obtain ⟨a0, a1⟩ := i2
        obtain ⟨b0, b1⟩ := i3
        obtain ⟨N, hN⟩ : ∃ N : Nat, N = (b - a).toNat := ⟨_, rfl⟩
        have HE := Lib.hid (show gapL m R name jo a b = gapF m R name jo a N by rw [gapL, if_pos (by simp [t1, t2, t3]), hN])
        have HT := Lib.hid t1
        have hN1 : N ≤ 3600 := by omega
        have HN := Lib.hid hN
        have GS : ∀ k, gapF m R name jo a (k + 1) = if (ruBest R name (a + (k : Int)) jo m).isNone = true then gapF m R name jo a k ++ [a + (k : Int)] else gapF m R name jo a k := fun _ => rfl
        have G0 : gapF m R name jo a 0 = [] := rfl
        have GL := gapF_len m R name jo a
        rw [HE.out]
        clear HE
        obtain ⟨gf, hgf⟩ : ∃ gf, gf = gapF m R name jo a := ⟨_, rfl⟩
        rw [← hgf] at GS G0 GL ⊢
        clear hgf
        have HGS := Lib.hid GS
        have HG0 := Lib.hid G0
        have HGL := Lib.hid GL
        clear hN GS G0 GL
        go_enter Try.func24, Try.ntmps24
        go_wp2_with fail
        refine (BO _ hx).mono ?_
        rintro e w1 ⟨rfl, hb1⟩
        clear BO
        have pB : Whole w1 w.heap.size 37 #[.slice A m c] := ((Whole.new w 37 #[.slice A m c])).below hb1 (by simp; try omega)
        have hB1 := hbx.trans (hb1.mono (by simp; try omega))
        clear hb1 hx hbx
        go_wp2_with fail
        refine (isEnd_any _ _).mono ?_
        rintro e w' ⟨rfl, rfl⟩
        go_wp2_with fail
        refine (isEnd_any _ _).mono ?_
        rintro e w' ⟨rfl, rfl⟩
        go_wp2_with fail
        go_loopw [11, 12] (fun v q wr => ∃ (k : Nat) (xs : List Int), k ≤ N ∧ q = .int .i64 (a + (k : Int)) ∧ True ∧ Hid (xs = gf k) ∧ xs.length ≤ k ∧ wr.ownsRow w.heap.size 3 1 v xs.length (xs.map (Value.int .i64)) ∧ Whole wr w.heap.size 37 #[.slice A m c] ∧ Below w.heap.size w wr) (fun _ q _ => (b - intOf q).toNat)
        case atStart => exact ⟨0, [], Nat.zero_le _, by simp, trivial, Lib.hid HG0.out.symm, by simp, own_empty _ _ _ _ hB1.size, pB.alloc _, hB1.alloc hB1.size _⟩
        case round =>
          clear pB hB1
          obtain ⟨k, xs, hk, rfl, -, hxs, hxl, hown, pB, hbr⟩ := hrel
          have hs1 := hbr.size
          by_cases hlt : a + (k : Int) < b
          · have RK := fun (v : World) (hv : RdRu v v.heap.size A m R) => RF v (a + (k : Int)) hv HT.out
            have GK := HGS.out k
            have w1k : IntKind.i64.wrap (a + (k : Int) + 1) = a + (k : Int) + 1 := IntWalk.i64_in _ ⟨by omega, by omega⟩
            have hkN : k + 1 ≤ N := by have := HN.out; omega
            have c0 : wr.cell? ⟨w.heap.size, 0, none⟩ = some (.slice A m c) := pB.cell 0
            have hrd := (h.below hbr).more hs1
            cases hq : ruBest R name (a + (k : Int)) jo m with
            | none =>
              simp only [hq, ruNo] at RK
              have HK := Lib.hid (show gf (k + 1) = gf k ++ [a + (k : Int)] by rw [GK, hq]; rfl)
              clear GK hq
              go_wp2_with fail
              refine (RK _ hrd).mono ?_
              rintro e w2 ⟨rfl, hb2⟩
              have hs2 := hb2.size
              replace hown := hown.kept (grown_of_below hb2 none) (Classical.em _)
              replace pB := pB.below hb2 pB.lt
              have hB2 := hbr.trans (hb2.mono hs1)
              clear c0 hb2 RK hrd
              go_wp2_with (at_builtin; refine wpList_append_own_at _ rfl _ _ 40 rfl w.heap.size 3 i0 (.int .i64 0) 1 8 Try.underlying40 hi hz0 hz1 hz2 rfl (by decide) _ _ _ rfl (hown.alloc _) ⟨w2.heap.size, 0, none⟩ 1 1 [.int .i64 (a + (k : Int))] rfl rfl ?c1 ?c2 ?c3 ?c4 ?c5 ?_)
              case c1 =>
                intro j u hj
                match j, hj with
                | 0, hj => simp at hj; subst hj; simp [Addr.add]
              case c2 => intro u hu; simp at hu; subst hu; rfl
              case c3 => unfold maxLen; omega
              case c4 => omega
              case c5 => simp; omega
              intro v' w3 hown3 hg3 _ hat
              have pB3 := (pB.alloc (.cells #[.int .i64 (a + (k : Int))] 3)).grown hg3 (fun e => own_apart hown pB (by decide) e.symm)
              go_wp2
              go_roundw
              case rel =>
                refine ⟨k + 1, xs ++ [a + (k : Int)], hkN, by push_cast; go_num, trivial, Lib.hid (by rw [HK.out, hxs.out]), by simp; omega, ?_, pB3, (hB2.alloc hB2.size _).grown hg3 (by simp; omega) (own_block_base hown)⟩
                rw [List.map_append, List.length_append]
                exact hown3
              case measure => simp [intOf]; omega
            | some j =>
              simp only [hq, ruNo] at RK
              have HK := Lib.hid (show gf (k + 1) = gf k by rw [GK, hq]; rfl)
              have hj0 : ¬ (j : Int) < 0 := by omega
              clear GK hq
              go_wp2_with fail
              refine (RK _ hrd).mono ?_
              rintro e w2 ⟨rfl, hb2⟩
              replace hown := hown.kept (grown_of_below hb2 none) (Classical.em _)
              replace pB := pB.below hb2 pB.lt
              have hB2 := hbr.trans (hb2.mono hs1)
              clear c0 hb2 RK hrd
              go_wp2_with fail
              go_roundw
              case rel => exact ⟨k + 1, xs, hkN, by push_cast; go_num, trivial, Lib.hid (by rw [HK.out, hxs.out]), by omega, hown, pB, hB2⟩
              case measure => simp [intOf]; omega
          · have HF := Lib.hid (show gf N = xs by rw [hxs.out]; congr 1; have := HN.out; omega)
            go_wp2_with fail
            go_ret
            rw [HF.out]
            exact OwnL.mk hown hbr

set_option maxRecDepth 8000 in
set_option maxHeartbeats 3200000 in
theorem sGapsIn (w : World) (A : Option Addr) (m c : Nat) (R : Nat → Rn) (name jo a b : Int) (h : RdRu w w.heap.size A m R) (hmc : m ≤ c) (hcx : c ≤ 9223372036854775807) (hn : ∀ i, i < m → (R i).n ≤ 1099511627776) :
    Calls Try.prog 33 #[.agg #[.slice A m c], .int .i64 name, .int .i64 jo, .int .i64 a, .int .i64 b] w (OwnL w (gapL m R name jo a b)) := by
  obtain ⟨i0, hi, hz0, hz1, hz2⟩ := info_parts int_inf
  have hmx := h.1
  have hbx : Below w.heap.size w ((w.alloc (.cells #[.slice A m c] 37)).alloc (.cells #[] 3)) := (by (repeat (first | (with_reducible exact Below.refl _ _) | (with_reducible assumption) | (with_reducible refine Below.drew ?_) | (with_reducible refine below_drewN ?_ _) | ((with_reducible refine Below.setCell ?_ ?_ _); rotate_left; focus (first | (simp; done) | omega | (simp; omega))) | ((with_reducible refine Below.alloc ?_ ?_ _); rotate_left; focus (first | exact Nat.le_refl _ | omega | (simp; done) | (simp; omega))))))
  have hx : RdRu ((w.alloc (.cells #[.slice A m c] 37)).alloc (.cells #[] 3)) ((w.alloc (.cells #[.slice A m c] 37)).alloc (.cells #[] 3)).heap.size A m R := (h.below hbx).more hbx.size
  have BO := fun (v : World) (hv : RdRu v v.heap.size A m R) => sBookOk v A m c R hv hmc hcx hn
  have RF := fun (v : World) (mo : Int) (hv : RdRu v v.heap.size A m R) (_ : bookB m R = true) => sFor v A m c R name mo jo hv
  clear hn
  cases t1 : bookB m R
  · have e0 : gapL m R name jo a b = [] := by rw [gapL, if_neg (by simp [t1])]
    rw [e0]
    rw [t1] at BO
    go_enter Try.func33, Try.ntmps33
    go_wp2_with fail
    refine (BO _ hx).mono ?_
    rintro e w1 ⟨rfl, hb1⟩
    have hE : w1.ownsRow w.heap.size 3 1 (.slice (some ⟨w.heap.size + 1, 0, none⟩) 0 0) 0 [] := by
      have h0 := own_empty (w.alloc (.cells #[.slice A m c] 37)) w.heap.size 3 1 (by simp)
      simp only [World.size_alloc] at h0
      exact h0.kept (grown_of_below hb1 none) (Classical.em _)
    go_wp2_with fail
    go_ret
    exact OwnL.mk (xs := []) hE (hbx.trans (hb1.mono (by simp; try omega)))
  · skip
    cases t2 : endB a
    · have e0 : gapL m R name jo a b = [] := by rw [gapL, if_neg (by simp [t1, t2])]
      rw [e0]
      rw [t1] at BO
      go_enter Try.func33, Try.ntmps33
      go_wp2_with fail
      refine (BO _ hx).mono ?_
      rintro e w1 ⟨rfl, hb1⟩
      have hE : w1.ownsRow w.heap.size 3 1 (.slice (some ⟨w.heap.size + 1, 0, none⟩) 0 0) 0 [] := by
        have h0 := own_empty (w.alloc (.cells #[.slice A m c] 37)) w.heap.size 3 1 (by simp)
        simp only [World.size_alloc] at h0
        exact h0.kept (grown_of_below hb1 none) (Classical.em _)
      go_wp2_with fail
      refine (l04End_any _ _).mono ?_
      rintro e w' ⟨rfl, rfl⟩
      go_wp2_with fail
      go_ret
      exact OwnL.mk (xs := []) hE (hbx.trans (hb1.mono (by simp; try omega)))
    · skip
      cases t3 : endB b
      · have e0 : gapL m R name jo a b = [] := by rw [gapL, if_neg (by simp [t1, t2, t3])]
        rw [e0]
        rw [t1] at BO
        go_enter Try.func33, Try.ntmps33
        go_wp2_with fail
        refine (BO _ hx).mono ?_
        rintro e w1 ⟨rfl, hb1⟩
        have hE : w1.ownsRow w.heap.size 3 1 (.slice (some ⟨w.heap.size + 1, 0, none⟩) 0 0) 0 [] := by
          have h0 := own_empty (w.alloc (.cells #[.slice A m c] 37)) w.heap.size 3 1 (by simp)
          simp only [World.size_alloc] at h0
          exact h0.kept (grown_of_below hb1 none) (Classical.em _)
        go_wp2_with fail
        refine (l04End_any _ _).mono ?_
        rintro e w' ⟨rfl, rfl⟩
        go_wp2_with fail
        refine (l04End_any _ _).mono ?_
        rintro e w' ⟨rfl, rfl⟩
        go_wp2_with fail
        go_ret
        exact OwnL.mk (xs := []) hE (hbx.trans (hb1.mono (by simp; try omega)))
      · skip
        rw [t1] at BO
        have i2 := inB_iff.1 t2
        have i3 := inB_iff.1 t3
        obtain ⟨a0, a1⟩ := i2
        obtain ⟨b0, b1⟩ := i3
        obtain ⟨N, hN⟩ : ∃ N : Nat, N = (b - a).toNat := ⟨_, rfl⟩
        have HE := Lib.hid (show gapL m R name jo a b = gapF m R name jo a N by rw [gapL, if_pos (by simp [t1, t2, t3]), hN])
        have HT := Lib.hid t1
        have hN1 : N ≤ 3600 := by omega
        have HN := Lib.hid hN
        have GS : ∀ k, gapF m R name jo a (k + 1) = if (ruBest R name (a + (k : Int)) jo m).isNone = true then gapF m R name jo a k ++ [a + (k : Int)] else gapF m R name jo a k := fun _ => rfl
        have G0 : gapF m R name jo a 0 = [] := rfl
        have GL := gapF_len m R name jo a
        rw [HE.out]
        clear HE
        obtain ⟨gf, hgf⟩ : ∃ gf, gf = gapF m R name jo a := ⟨_, rfl⟩
        rw [← hgf] at GS G0 GL ⊢
        clear hgf
        have HGS := Lib.hid GS
        have HG0 := Lib.hid G0
        have HGL := Lib.hid GL
        clear hN GS G0 GL
        go_enter Try.func33, Try.ntmps33
        go_wp2_with fail
        refine (BO _ hx).mono ?_
        rintro e w1 ⟨rfl, hb1⟩
        clear BO
        have pB : Whole w1 w.heap.size 37 #[.slice A m c] := (((Whole.new w 37 #[.slice A m c]).alloc _)).below hb1 (by simp; try omega)
        have hB1 := hbx.trans (hb1.mono (by simp; try omega))
        have hE : w1.ownsRow w.heap.size 3 1 (.slice (some ⟨w.heap.size + 1, 0, none⟩) 0 0) 0 [] := by
          have h0 := own_empty (w.alloc (.cells #[.slice A m c] 37)) w.heap.size 3 1 (by simp)
          simp only [World.size_alloc] at h0
          exact h0.kept (grown_of_below hb1 none) (Classical.em _)
        clear hb1 hx hbx
        go_wp2_with fail
        refine (l04End_any _ _).mono ?_
        rintro e w' ⟨rfl, rfl⟩
        go_wp2_with fail
        refine (l04End_any _ _).mono ?_
        rintro e w' ⟨rfl, rfl⟩
        go_wp2_with fail
        go_loopw [11, 12] (fun v q wr => ∃ (k : Nat) (xs : List Int), k ≤ N ∧ q = .int .i64 (a + (k : Int)) ∧ True ∧ Hid (xs = gf k) ∧ xs.length ≤ k ∧ wr.ownsRow w.heap.size 3 1 v xs.length (xs.map (Value.int .i64)) ∧ Whole wr w.heap.size 37 #[.slice A m c] ∧ Below w.heap.size w wr) (fun _ q _ => (b - intOf q).toNat)
        case atStart => exact ⟨0, [], Nat.zero_le _, by simp, trivial, Lib.hid HG0.out.symm, by simp, hE, pB, hB1⟩
        case round =>
          clear pB hB1 hE
          obtain ⟨k, xs, hk, rfl, -, hxs, hxl, hown, pB, hbr⟩ := hrel
          have hs1 := hbr.size
          by_cases hlt : a + (k : Int) < b
          · have RK := fun (v : World) (hv : RdRu v v.heap.size A m R) => RF v (a + (k : Int)) hv HT.out
            have GK := HGS.out k
            have w1k : IntKind.i64.wrap (a + (k : Int) + 1) = a + (k : Int) + 1 := IntWalk.i64_in _ ⟨by omega, by omega⟩
            have hkN : k + 1 ≤ N := by have := HN.out; omega
            have c0 : wr.cell? ⟨w.heap.size, 0, none⟩ = some (.slice A m c) := pB.cell 0
            have hrd := (h.below hbr).more hs1
            cases hq : ruBest R name (a + (k : Int)) jo m with
            | none =>
              simp only [hq, ruNo] at RK
              have HK := Lib.hid (show gf (k + 1) = gf k ++ [a + (k : Int)] by rw [GK, hq]; rfl)
              clear GK hq
              go_wp2_with fail
              refine (RK _ hrd).mono ?_
              rintro e w2 ⟨rfl, hb2⟩
              have hs2 := hb2.size
              replace hown := hown.kept (grown_of_below hb2 none) (Classical.em _)
              replace pB := pB.below hb2 pB.lt
              have hB2 := hbr.trans (hb2.mono hs1)
              clear c0 hb2 RK hrd
              go_wp2_with (at_builtin; refine wpList_append_own_at _ rfl _ _ 40 rfl w.heap.size 3 i0 (.int .i64 0) 1 8 Try.underlying40 hi hz0 hz1 hz2 rfl (by decide) _ _ _ rfl (hown.alloc _) ⟨w2.heap.size, 0, none⟩ 1 1 [.int .i64 (a + (k : Int))] rfl rfl ?c1 ?c2 ?c3 ?c4 ?c5 ?_)
              case c1 =>
                intro j u hj
                match j, hj with
                | 0, hj => simp at hj; subst hj; simp [Addr.add]
              case c2 => intro u hu; simp at hu; subst hu; rfl
              case c3 => unfold maxLen; omega
              case c4 => omega
              case c5 => simp; omega
              intro v' w3 hown3 hg3 _ hat
              have pB3 := (pB.alloc (.cells #[.int .i64 (a + (k : Int))] 3)).grown hg3 (fun e => own_apart hown pB (by decide) e.symm)
              go_wp2
              go_roundw
              case rel =>
                refine ⟨k + 1, xs ++ [a + (k : Int)], hkN, by push_cast; go_num, trivial, Lib.hid (by rw [HK.out, hxs.out]), by simp; omega, ?_, pB3, (hB2.alloc hB2.size _).grown hg3 (by simp; omega) (own_block_base hown)⟩
                rw [List.map_append, List.length_append]
                exact hown3
              case measure => simp [intOf]; omega
            | some j =>
              simp only [hq, ruNo] at RK
              have HK := Lib.hid (show gf (k + 1) = gf k by rw [GK, hq]; rfl)
              have hj0 : ¬ (j : Int) < 0 := by omega
              clear GK hq
              go_wp2_with fail
              refine (RK _ hrd).mono ?_
              rintro e w2 ⟨rfl, hb2⟩
              replace hown := hown.kept (grown_of_below hb2 none) (Classical.em _)
              replace pB := pB.below hb2 pB.lt
              have hB2 := hbr.trans (hb2.mono hs1)
              clear c0 hb2 RK hrd
              go_wp2_with fail
              go_roundw
              case rel => exact ⟨k + 1, xs, hkN, by push_cast; go_num, trivial, Lib.hid (by rw [HK.out, hxs.out]), by omega, hown, pB, hB2⟩
              case measure => simp [intOf]; omega
          · have HF := Lib.hid (show gf N = xs by rw [hxs.out]; congr 1; have := HN.out; omega)
            go_wp2_with fail
            go_ret
            rw [HF.out]
            exact OwnL.mk hown hbr
end Go.Proofs.Ytjnckhdmaebfdaa
