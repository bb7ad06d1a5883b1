/- AddRule of the reference. Conditions: the rules can be read. -/
import Derived.Test.YtjnckhdmaebfdaaCpRule
import Derived.Test.YtjnckhdmaebfdaaBookOk
namespace Go.Proofs.Ytjnckhdmaebfdaa
open Go.RowKit

set_option linter.unusedVariables false
/-- The rules R with r behind the first m. -/
def addR (R : Nat → Rn) (m : Nat) (r : Rn) (i : Nat) : Rn := if i = m then r else R i
theorem addR_same (R : Nat → Rn) (m : Nat) (r : Rn) : addR R m r m = r := by rw [addR, if_pos rfl]
theorem addR_lt (R : Nat → Rn) {m i : Nat} (r : Rn) (h : i < m) : addR R m r i = R i := by rw [addR, if_neg (by omega)]
def addOk (R : Nat → Rn) (m : Nat) (r : Rn) : Bool := bookB m R && bookB (m + 1) (addR R m r)
def addN (R : Nat → Rn) (m : Nat) (r : Rn) : Nat := if addOk R m r = true then m + 1 else m
theorem OwB.cap {w : World} {base c : Nat} {B : Option Addr} {xs : List Rn} (h : OwB w base (.slice B xs.length c) xs) : xs.length ≤ c ∧ c ≤ maxLen := by
  rcases h.1.2 with ⟨hv, h0⟩ | ⟨g, cap, cur, hv, _, _, h1, h2, _⟩
  · injection hv with _ h1 h2
    subst h2
    exact ⟨by omega, Nat.zero_le _⟩
  · injection hv with _ _ hv2
    subst hv2
    exact ⟨h1, h2⟩
theorem sameL.lift {R : Nat → Rn} {xs : List Rn} {r : Rn} (h : sameL R xs) : sameL (addR R xs.length r) xs := fun i hi => by rw [addR_lt R r hi]; exact h i hi
/-- What AddRule leaves. -/
def Added (w : World) (R : Nat → Rn) (m : Nat) (r : Rn) (e : Ending) (w' : World) : Prop :=
  ∃ (xs : List Rn) (B : Option Addr) (cc : Nat), e = .returned (.tuple #[.agg #[.slice B xs.length cc], .bool (addOk R m r)]) ∧ xs.length = addN R m r ∧ sameL (addR R m r) xs ∧ OwB w' w.heap.size (.slice B xs.length cc) xs ∧ Below w.heap.size w w'

set_option maxRecDepth 8000 in
set_option maxHeartbeats 6400000 in
theorem sAddRule (w : World) (A : Option Addr) (m c : Nat) (R : Nat → Rn) (r : Rn) (h : RdRu w w.heap.size A m R) (h' : RdNo w w.heap.size r.A r.n r.N) (hm : m ≤ 1048576) (hmc : m ≤ c) (hcx : c ≤ 9223372036854775807) (hn : ∀ i, i < m → (R i).n ≤ 1048576) (hn' : r.n ≤ 1048576) (hA : ∀ i, i < m → (R i).A = none → (R i).n = 0 ∧ (R i).c = 0) (hA' : r.A = none → r.n = 0 ∧ r.c = 0) :
    Calls Try.prog 38 #[.agg #[.slice A m c], r.val] w (Added w R m r) := by
  have hmx := h.1
  obtain ⟨i0, hi, hz0, hz1, hz2⟩ := info_parts ru_inf
  have hbb : Below w.heap.size w (((w.alloc (.cells #[.slice A m c] 37)).alloc (.cells #[.int .i64 r.s.nm, .int .i64 r.s.fr, .int .i64 r.s.to, .int .i64 r.s.jo, .int .i64 r.s.ra, .int .i64 r.s.mo, .slice r.A r.n r.c] 29)).alloc (.cells #[.slice none 0 0] 37)) := (by (repeat (first | (with_reducible exact Below.refl _ _) | (with_reducible assumption) | (with_reducible refine Below.drew ?_) | (with_reducible refine below_drewN ?_ _) | ((with_reducible refine Below.setCell ?_ ?_ _); rotate_left; focus (first | (simp; done) | omega | (simp; omega))) | ((with_reducible refine Below.alloc ?_ ?_ _); rotate_left; focus (first | exact Nat.le_refl _ | omega | (simp; done) | (simp; omega))))))
  have pB0 : Whole (((w.alloc (.cells #[.slice A m c] 37)).alloc (.cells #[.int .i64 r.s.nm, .int .i64 r.s.fr, .int .i64 r.s.to, .int .i64 r.s.jo, .int .i64 r.s.ra, .int .i64 r.s.mo, .slice r.A r.n r.c] 29)).alloc (.cells #[.slice none 0 0] 37)) w.heap.size 37 #[.slice A m c] := ((Whole.new w _ _).alloc _).alloc _
  have pQ0 : Whole (((w.alloc (.cells #[.slice A m c] 37)).alloc (.cells #[.int .i64 r.s.nm, .int .i64 r.s.fr, .int .i64 r.s.to, .int .i64 r.s.jo, .int .i64 r.s.ra, .int .i64 r.s.mo, .slice r.A r.n r.c] 29)).alloc (.cells #[.slice none 0 0] 37)) (w.heap.size + 1) 29 #[.int .i64 r.s.nm, .int .i64 r.s.fr, .int .i64 r.s.to, .int .i64 r.s.jo, .int .i64 r.s.ra, .int .i64 r.s.mo, .slice r.A r.n r.c] := by have k := (Whole.new (w.alloc (.cells #[.slice A m c] 37)) 29 #[.int .i64 r.s.nm, .int .i64 r.s.fr, .int .i64 r.s.to, .int .i64 r.s.jo, .int .i64 r.s.ra, .int .i64 r.s.mo, .slice r.A r.n r.c]).alloc (.cells #[.slice none 0 0] 37); simpa using k
  have pR0 : Whole (((w.alloc (.cells #[.slice A m c] 37)).alloc (.cells #[.int .i64 r.s.nm, .int .i64 r.s.fr, .int .i64 r.s.to, .int .i64 r.s.jo, .int .i64 r.s.ra, .int .i64 r.s.mo, .slice r.A r.n r.c] 29)).alloc (.cells #[.slice none 0 0] 37)) (w.heap.size + 1 + 1) 37 #[.slice none 0 0] := by have k := Whole.new ((w.alloc (.cells #[.slice A m c] 37)).alloc (.cells #[.int .i64 r.s.nm, .int .i64 r.s.fr, .int .i64 r.s.to, .int .i64 r.s.jo, .int .i64 r.s.ra, .int .i64 r.s.mo, .slice r.A r.n r.c] 29)) 37 #[.slice none 0 0]; simpa using k
  have CP := fun (v : World) (hv : RdRu v v.heap.size A m R) => sl10Copy v A m c R hv hm hn hA
  have BO := fun (v : World) (hv : RdRu v v.heap.size A m R) => sBookOk v A m c R hv hmc hcx (fun i hi => Nat.le_trans (hn i hi) (by omega))
  have HN := Lib.hid hn
  clear hn hA
  go_enter Try.func38, Try.ntmps38
  go_wp2_with fail
  refine (CP _ ((h.below hbb).more hbb.size)).mono ?_
  rintro e w1 ⟨xs, B, cc, rfl, hl, hsm, own, hb1⟩
  subst hl
  have hs1 := hb1.size
  simp only [World.size_alloc] at hs1
  have pB1 := pB0.below hb1 pB0.lt
  have pQ1 := pQ0.below hb1 pQ0.lt
  have pR1 := pR0.below hb1 pR0.lt
  have hB1 := hbb.trans (hb1.mono hbb.size)
  have own1 : OwB w1 (w.heap.size + 1 + 1 + 1) (.slice B xs.length cc) xs := by have k := own; simp only [World.size_alloc] at k; exact k
  clear pB0 pQ0 pR0 hbb hb1 own
  have pO := Whole.new w1 37 #[.slice B xs.length cc]
  have hbx : Below w1.heap.size w1 (w1.alloc (.cells #[.slice B xs.length cc] 37)) := (Below.refl _ _).alloc (Nat.le_refl _) _
  have ownU := own1.all hbx
  have pB := pB1.below hbx pB1.lt
  have pQ := pQ1.below hbx pQ1.lt
  have pR := pR1.below hbx pR1.lt
  have hbr := hB1.trans (hbx.mono hB1.size)
  have hsx := hbx.size
  clear pB1 pQ1 pR1 hB1 own1 hbx
  obtain ⟨wr, hwr⟩ : ∃ v, v = w1.alloc (.cells #[.slice B xs.length cc] 37) := ⟨_, rfl⟩
  obtain ⟨bo, hbo⟩ : ∃ b, b = w1.heap.size := ⟨_, rfl⟩
  rw [← hwr] at pO ownU pB pQ pR hbr hsx
  rw [← hbo] at pO
  have hbo3 : w.heap.size + 1 + 1 < bo := by omega
  go_upto_region 2 with fail
  rw [← hwr]
  rw [← hbo]
  clear hwr hbo
  have hnd : ∀ i, i < xs.length → ∀ q, (nsl (xs.getD i Rn.zero)).ownBlock = some q → q < wr.heap.size := fun i hi q hq => ((ownU.2.1 i hi).lt q hq).2
  have HND := Lib.hid hnd
  have hno : RdNo wr wr.heap.size r.A r.n r.N := (h'.below hbr).more hbr.size
  have cO : wr.cell? ⟨bo, 0, none⟩ = some (.slice B xs.length cc) := pO.cell 0
  have q0 : wr.cell? ⟨w.heap.size + 1, 0, none⟩ = some (.int .i64 r.s.nm) := pQ.cell 0
  have q1 : wr.cell? ⟨w.heap.size + 1, 1, none⟩ = some (.int .i64 r.s.fr) := pQ.cell 1
  have q2 : wr.cell? ⟨w.heap.size + 1, 2, none⟩ = some (.int .i64 r.s.to) := pQ.cell 2
  have q3 : wr.cell? ⟨w.heap.size + 1, 3, none⟩ = some (.int .i64 r.s.jo) := pQ.cell 3
  have q4 : wr.cell? ⟨w.heap.size + 1, 4, none⟩ = some (.int .i64 r.s.ra) := pQ.cell 4
  have q5 : wr.cell? ⟨w.heap.size + 1, 5, none⟩ = some (.int .i64 r.s.mo) := pQ.cell 5
  have q6 : wr.cell? ⟨w.heap.size + 1, 6, none⟩ = some (.slice r.A r.n r.c) := pQ.cell 6
  have hsz1 := hbr.size
  clear hnd
  go_cut [6] (fun s6 wx => s6 = .pointer (some ⟨bo, 0, none⟩) ∧ ∃ (ys : List Rn) (D : Option Addr) (cd : Nat), ys.length = xs.length + 1 ∧ sameL (addR R xs.length r) ys ∧ OwB wx w.heap.size (.slice D ys.length cd) ys ∧ Whole wx bo 37 #[.slice D ys.length cd] ∧ Whole wx w.heap.size 37 #[.slice A xs.length c] ∧ Whole wx (w.heap.size + 1 + 1) 37 #[.slice none 0 0] ∧ Below w.heap.size w wx)
  case first =>
    go_region_law (first
      | ((with_reducible show ite (Region.wanted ⟨some 12, _, _, _, _, _⟩ _ = true) _ _); go_simp; go_at_call 70; refine (sl10Rule _ r.s r.A r.n r.c r.N (show RdNo wr.drew wr.drew.heap.size _ _ _ from hno) hA' hn').mono ?_; rintro e w2 ⟨B2, c2, rfl, own2, hb2d⟩; have hb2 : Below wr.heap.size wr w2 := ⟨hb2d.os, hb2d.tape, hb2d.output, hb2d.size, hb2d.block⟩; clear hb2d; have hs2 := hb2.size; have hs1 := hbr.size; have hbol := pO.lt; have cO2 : w2.cell? ⟨bo, 0, none⟩ = some (.slice B xs.length cc) := (pO.below hb2 pO.lt).cell 0; have zO2 : bo < w2.heap.size := (by omega); have hn3 : ¬ w2.heap.size = bo := (by omega); have hn4 : ¬ bo = w2.heap.size := (by omega); have ownX := ownU.all hb2; have own2' : OwR w2 wr.heap.size 65 6 (.slice B2 r.n c2) r.n (noAt r.N) := own2; have pB2 := pB.below hb2 pB.lt; have pR2 := pR.below hb2 pR.lt; have pO2 := pO.below hb2 pO.lt; have hbr2 := hbr.trans (hb2.mono hbr.size); clear own2)
      | ((with_reducible show ite (Region.wanted ⟨some 14, _, _, _, _, _⟩ _ = true) _ _); refine step_append_lies _ (by rfl) (.tmp 10) (.tmp 13) 35 (by rfl) (w.heap.size + 1 + 1 + 1) 29 i0 _ 7 72 Try.underlying35 hi hz0 hz1 hz2 rfl (by omega) (.slice B xs.length cc) xs.length (xs.flatMap Rn.cells) (by rfl) (ownX.1.alloc (.cells #[.int .i64 r.s.nm, .int .i64 r.s.fr, .int .i64 r.s.to, .int .i64 r.s.jo, .int .i64 r.s.ra, .int .i64 r.s.mo, .slice B2 r.n c2] 29)) ⟨w2.heap.size, 0, none⟩ 1 1 [.int .i64 r.s.nm, .int .i64 r.s.fr, .int .i64 r.s.to, .int .i64 r.s.jo, .int .i64 r.s.ra, .int .i64 r.s.mo, .slice B2 r.n c2] (by rfl) (by rfl) (ru_cells_new w2 [.int .i64 r.s.nm, .int .i64 r.s.fr, .int .i64 r.s.to, .int .i64 r.s.jo, .int .i64 r.s.ra, .int .i64 r.s.mo, .slice B2 r.n c2] 29) (by simp [Value.oneCell']) (by omega) (by unfold maxLen; omega) (by omega) (by simp; omega) _ rfl ?_; intro g3 c3 w3 own3 hg3 hat3 hlt3; have hbx : Below w2.heap.size w2 (w2.alloc (.cells #[.int .i64 r.s.nm, .int .i64 r.s.fr, .int .i64 r.s.to, .int .i64 r.s.jo, .int .i64 r.s.ra, .int .i64 r.s.mo, .slice B2 r.n c2] 29)) := (Below.refl _ _).alloc (Nat.le_refl _) _; have ownY := (ownX.all hbx).snoc (r := ⟨r.s, B2, r.n, c2, r.N⟩) (b := wr.heap.size) HND.out (own2'.all hbx) (by omega) hg3 own3; have far := fun {g : Nat} {t : TypeId} {cs : Array Value} (hw : Whole w2 g t cs) (hne : 29 ≠ t) => (hw.alloc (.cells #[.int .i64 r.s.nm, .int .i64 r.s.fr, .int .i64 r.s.to, .int .i64 r.s.jo, .int .i64 r.s.ra, .int .i64 r.s.mo, .slice B2 r.n c2] 29)).grown hg3 (fun e => own_apart (ownX.1.alloc (.cells #[.int .i64 r.s.nm, .int .i64 r.s.fr, .int .i64 r.s.to, .int .i64 r.s.jo, .int .i64 r.s.ra, .int .i64 r.s.mo, .slice B2 r.n c2] 29)) (hw.alloc (.cells #[.int .i64 r.s.nm, .int .i64 r.s.fr, .int .i64 r.s.to, .int .i64 r.s.jo, .int .i64 r.s.ra, .int .i64 r.s.mo, .slice B2 r.n c2] 29)) hne e.symm); have pB3 := far pB2 (by decide); have pR3 := far pR2 (by decide); have pO3 := far pO2 (by decide); clear far; have hB3 : Below w.heap.size w w3 := (hbr2.alloc (by omega) _).grown hg3 (by simp; omega) (fun q hq => by have := ev_base ownX.1 q hq; omega); have hs3 := hg3.size; have cO3 : w3.cell? ⟨bo, 0, none⟩ = some (.slice B xs.length cc) := pO3.cell 0; have fO3 := pO3.free 0; simp only [World.size_alloc] at hs3; clear own3 hat3))
    all_goals
      go_wp2_with fail
      go_meet
      exact ⟨rfl, xs ++ [⟨r.s, B2, r.n, c2, r.N⟩], some ⟨g3, 0, none⟩, c3, by simp, hsm.lift.snoc (by rw [addR_same]; exact ⟨rfl, rfl, rfl⟩), by simpa using (ownY.put pO3 (by decide) (by decide) 0 (.slice (some ⟨g3, 0, none⟩) (xs.length + 1) c3)).less (by omega), by simpa using pO3.put 0 (.slice (some ⟨g3, 0, none⟩) (xs.length + 1) c3), pB3.far (p := ⟨bo, 0, none⟩) (by show ¬ w.heap.size = bo; omega) _, pR3.far (p := ⟨bo, 0, none⟩) (by show ¬ w.heap.size + 1 + 1 = bo; omega) _, hB3.setCell (by show w.heap.size ≤ bo; omega) _⟩
  case rest =>
    clear q0 q1 q2 q3 q4 q5 q6 cO hno HND pO ownU pB pQ pR hbr hsx hsz1
    obtain ⟨rfl, ys, D, cd, hyl, hys, own, pO, pB, pR, hbr⟩ := hcut
    have HY := Lib.hid hyl
    clear hyl
    have hs1 := hbr.size
    cases t1 : bookB xs.length R
    · simp only [t1] at BO
      have hk0 : addOk R xs.length r = false := by rw [addOk, t1]; rfl
      clear t1
      have cB : wc.cell? ⟨w.heap.size, 0, none⟩ = some (.slice A xs.length c) := pB.cell 0
      have zB := pB.lt
      have cO : wc.cell? ⟨bo, 0, none⟩ = some (.slice D ys.length cd) := pO.cell 0
      have zO := pO.lt
      have cR : wc.cell? ⟨w.heap.size + 1 + 1, 0, none⟩ = some (.slice none 0 0) := pR.cell 0
      have zR := pR.lt
      have fR := pR.free 0
      go_wp2_with fail
      refine (BO _ ((h.below hbr).more hs1)).mono ?_
      rintro e w5 ⟨rfl, hb5⟩
      clear cB zB cO zO cR zR fR
      replace pB := pB.below hb5 pB.lt
      replace pO := pO.below hb5 pO.lt
      replace pR := pR.below hb5 pR.lt
      replace own := own.all hb5
      have hB5 := hbr.trans (hb5.mono hs1)
      have hs5 := hB5.size
      have cB : w5.cell? ⟨w.heap.size, 0, none⟩ = some (.slice A xs.length c) := pB.cell 0
      have zB := pB.lt
      have cO : w5.cell? ⟨bo, 0, none⟩ = some (.slice D ys.length cd) := pO.cell 0
      have zO := pO.lt
      have cR : w5.cell? ⟨w.heap.size + 1 + 1, 0, none⟩ = some (.slice none 0 0) := pR.cell 0
      have zR := pR.lt
      have fR := pR.free 0
      go_wp2_with fail
      refine (CP _ ((h.below hB5).more hB5.size)).mono ?_
      rintro e w8 ⟨zs, E, ce, rfl, hzl, hzs, ownz, hb8⟩
      clear cB zB cO zO cR zR fR
      have pR8 := pR.below hb8 pR.lt
      have hB8 := hB5.trans (hb8.mono hB5.size)
      have cR : w8.cell? ⟨w.heap.size + 1 + 1, 0, none⟩ = some (.slice none 0 0) := pR8.cell 0
      have fR := pR8.free 0
      have zR := pR8.lt
      have HZ := Lib.hid hzl
      have HK := Lib.hid hk0
      clear hzl hk0 CP BO
      go_wp2_with fail
      refine bodyPost_ret (v := .tuple #[.agg #[.slice E zs.length ce], .bool false]) (by simp [results, Try.results38, go_sem, cR]) rfl ⟨zs, E, ce, by rw [HK.out], by rw [addN, HK.out]; exact HZ.out, by have k := hzs.lift (r := r); rw [HZ.out] at k; exact k, (ownz.put pR8 (by decide) (by decide) 0 _).less hB5.size, hB8.setCell (by show w.heap.size ≤ w.heap.size + 1 + 1; omega) _⟩
    · skip
      simp only [t1] at BO
      have BY : ∀ (v : World), RdRu v v.heap.size D ys.length (fun i => ys.getD i Rn.zero) → Calls Try.prog 28 #[.agg #[.slice D ys.length cd]] v fun e w' => e = .returned (.bool (bookB (xs.length + 1) (addR R xs.length r))) ∧ Below v.heap.size v w' := fun v hv => by
        have k := sBookOk v D ys.length cd _ hv own.cap.1 (by have := own.cap.2; unfold maxLen at this; omega) (fun i hi => by rw [(hys i hi).2.1]; have hyl := HY.out; by_cases e : i = xs.length; (rw [e, addR_same]; omega); (rw [addR_lt R r (by omega)]; exact Nat.le_trans (HN.out i (by omega)) (by omega)))
        have ek : bookB ys.length (fun i => ys.getD i Rn.zero) = bookB (xs.length + 1) (addR R xs.length r) := by rw [bookB_same hys.same, HY.out]
        rw [ek] at k
        exact k
      cases t2 : bookB (xs.length + 1) (addR R xs.length r)
      · simp only [t2] at BY
        have hk0 : addOk R xs.length r = false := by rw [addOk, t1, t2]; rfl
        clear t1 t2
        have cB : wc.cell? ⟨w.heap.size, 0, none⟩ = some (.slice A xs.length c) := pB.cell 0
        have zB := pB.lt
        have cO : wc.cell? ⟨bo, 0, none⟩ = some (.slice D ys.length cd) := pO.cell 0
        have zO := pO.lt
        have cR : wc.cell? ⟨w.heap.size + 1 + 1, 0, none⟩ = some (.slice none 0 0) := pR.cell 0
        have zR := pR.lt
        have fR := pR.free 0
        go_wp2_with fail
        refine (BO _ ((h.below hbr).more hs1)).mono ?_
        rintro e w5 ⟨rfl, hb5⟩
        clear cB zB cO zO cR zR fR
        replace pB := pB.below hb5 pB.lt
        replace pO := pO.below hb5 pO.lt
        replace pR := pR.below hb5 pR.lt
        replace own := own.all hb5
        have hB5 := hbr.trans (hb5.mono hs1)
        have hs5 := hB5.size
        have rdy := own.rd
        have cB : w5.cell? ⟨w.heap.size, 0, none⟩ = some (.slice A xs.length c) := pB.cell 0
        have zB := pB.lt
        have cO : w5.cell? ⟨bo, 0, none⟩ = some (.slice D ys.length cd) := pO.cell 0
        have zO := pO.lt
        have cR : w5.cell? ⟨w.heap.size + 1 + 1, 0, none⟩ = some (.slice none 0 0) := pR.cell 0
        have zR := pR.lt
        have fR := pR.free 0
        go_wp2_with fail
        refine (BY _ rdy).mono ?_
        rintro e w6 ⟨rfl, hb6⟩
        clear cB zB cO zO cR zR fR
        replace pB := pB.below hb6 pB.lt
        replace pO := pO.below hb6 pO.lt
        replace pR := pR.below hb6 pR.lt
        replace own := own.all hb6
        have hB6 := hB5.trans (hb6.mono hs5)
        have hs6 := hB6.size
        have cB : w6.cell? ⟨w.heap.size, 0, none⟩ = some (.slice A xs.length c) := pB.cell 0
        have zB := pB.lt
        have cO : w6.cell? ⟨bo, 0, none⟩ = some (.slice D ys.length cd) := pO.cell 0
        have zO := pO.lt
        have cR : w6.cell? ⟨w.heap.size + 1 + 1, 0, none⟩ = some (.slice none 0 0) := pR.cell 0
        have zR := pR.lt
        have fR := pR.free 0
        go_wp2_with fail
        refine (CP _ ((h.below hB6).more hB6.size)).mono ?_
        rintro e w8 ⟨zs, E, ce, rfl, hzl, hzs, ownz, hb8⟩
        clear cB zB cO zO cR zR fR
        have pR8 := pR.below hb8 pR.lt
        have hB8 := hB6.trans (hb8.mono hB6.size)
        have cR : w8.cell? ⟨w.heap.size + 1 + 1, 0, none⟩ = some (.slice none 0 0) := pR8.cell 0
        have fR := pR8.free 0
        have zR := pR8.lt
        have HZ := Lib.hid hzl
        have HK := Lib.hid hk0
        clear hzl hk0 CP BO
        go_wp2_with fail
        refine bodyPost_ret (v := .tuple #[.agg #[.slice E zs.length ce], .bool false]) (by simp [results, Try.results38, go_sem, cR]) rfl ⟨zs, E, ce, by rw [HK.out], by rw [addN, HK.out]; exact HZ.out, by have k := hzs.lift (r := r); rw [HZ.out] at k; exact k, (ownz.put pR8 (by decide) (by decide) 0 _).less hB6.size, hB8.setCell (by show w.heap.size ≤ w.heap.size + 1 + 1; omega) _⟩
      · simp only [t2] at BY
        have hk0 : addOk R xs.length r = true := by rw [addOk, t1, t2]; rfl
        clear t1 t2
        have cB : wc.cell? ⟨w.heap.size, 0, none⟩ = some (.slice A xs.length c) := pB.cell 0
        have zB := pB.lt
        have cO : wc.cell? ⟨bo, 0, none⟩ = some (.slice D ys.length cd) := pO.cell 0
        have zO := pO.lt
        have cR : wc.cell? ⟨w.heap.size + 1 + 1, 0, none⟩ = some (.slice none 0 0) := pR.cell 0
        have zR := pR.lt
        have fR := pR.free 0
        go_wp2_with fail
        refine (BO _ ((h.below hbr).more hs1)).mono ?_
        rintro e w5 ⟨rfl, hb5⟩
        clear cB zB cO zO cR zR fR
        replace pB := pB.below hb5 pB.lt
        replace pO := pO.below hb5 pO.lt
        replace pR := pR.below hb5 pR.lt
        replace own := own.all hb5
        have hB5 := hbr.trans (hb5.mono hs1)
        have hs5 := hB5.size
        have rdy := own.rd
        have cB : w5.cell? ⟨w.heap.size, 0, none⟩ = some (.slice A xs.length c) := pB.cell 0
        have zB := pB.lt
        have cO : w5.cell? ⟨bo, 0, none⟩ = some (.slice D ys.length cd) := pO.cell 0
        have zO := pO.lt
        have cR : w5.cell? ⟨w.heap.size + 1 + 1, 0, none⟩ = some (.slice none 0 0) := pR.cell 0
        have zR := pR.lt
        have fR := pR.free 0
        go_wp2_with fail
        refine (BY _ rdy).mono ?_
        rintro e w6 ⟨rfl, hb6⟩
        clear cB zB cO zO cR zR fR
        replace pB := pB.below hb6 pB.lt
        replace pO := pO.below hb6 pO.lt
        replace pR := pR.below hb6 pR.lt
        replace own := own.all hb6
        have hB6 := hB5.trans (hb6.mono hs5)
        have hs6 := hB6.size
        have cB : w6.cell? ⟨w.heap.size, 0, none⟩ = some (.slice A xs.length c) := pB.cell 0
        have zB := pB.lt
        have cO : w6.cell? ⟨bo, 0, none⟩ = some (.slice D ys.length cd) := pO.cell 0
        have zO := pO.lt
        have cR : w6.cell? ⟨w.heap.size + 1 + 1, 0, none⟩ = some (.slice none 0 0) := pR.cell 0
        have zR := pR.lt
        have fR := pR.free 0
        have HK := Lib.hid hk0
        clear hk0
        go_wp2_with fail
        refine bodyPost_ret (v := .tuple #[.agg #[.slice D ys.length cd], .bool true]) (by simp [results, Try.results38, go_sem, cR]) rfl ⟨ys, D, cd, by rw [HK.out], by rw [addN, HK.out]; exact HY.out, hys, own.put pR (by decide) (by decide) 0 _, hB6.setCell (by show w.heap.size ≤ w.heap.size + 1 + 1; omega) _⟩
end Go.Proofs.Ytjnckhdmaebfdaa
