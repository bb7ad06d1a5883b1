/- AddSpell of the reference. Conditions: the spells can be read. -/
import Derived.Test.YtmbmpogdakoloaaAddSp
import Derived.BigQuiet
namespace Go.Proofs.Ytmbmpogdakoloaa
open Go.RowKit
set_option linter.unusedVariables false

theorem sp_new (w : World) (xs : List Value) (t : TypeId) : ∀ j u, xs[j]? = some u → (w.alloc (.cells xs.toArray t)).cell? ((⟨w.heap.size, 0, none⟩ : Addr).add j) = some u := by
  intro j u hj
  rw [Addr.add_lit, Nat.zero_add, (Whole.new w t xs.toArray).cell]
  simpa using hj
theorem OwL.snoc {w : World} {base m : Nat} {v : Value} {M M' : Nat → Sp} {s : Sp} (h : w.ownsRow base 29 4 v (m + 1) (((List.range m).map M).flatMap Sp.cells ++ s.cells)) (e : ∀ i, i < m → M' i = M i) (e2 : M' m = s) : OwL w base v (m + 1) M' := by
  have hl : (List.range (m + 1)).map M' = (List.range m).map M ++ [s] := by
    rw [List.range_succ, List.map_append]
    congr 1
    · exact List.map_congr_left fun i hi => e i (List.mem_range.1 hi)
    · simp [e2]
  rw [OwL, hl]
  simpa using h
theorem OwL.same {w : World} {base m : Nat} {v : Value} {M M' : Nat → Sp} (h : OwL w base v m M) (e : ∀ i, i < m → M' i = M i) : OwL w base v m M' := by
  have hl : (List.range m).map M' = (List.range m).map M := List.map_congr_left fun i hi => e i (List.mem_range.1 hi)
  rw [OwL, hl]
  exact h
/-- How far the list has grown behind k spells. -/
def putB (L : Nat → Sp) (v : Int) (k : Nat) : Bool := decide (atL L v k < k)
def putN (L : Nat → Sp) (v : Int) (k : Nat) : Nat := if putB L v k = true then k + 1 else k
def putM (L : Nat → Sp) (x : Sp) (k : Nat) : Nat → Sp := if putB L x.f k = true then insL L (atL L x.f k) x else L
theorem put_yes {L : Nat → Sp} {x : Sp} {k : Nat} (h : putB L x.f k = true) : putB L x.f (k + 1) = true ∧ putN L x.f k = k + 1 ∧ putN L x.f (k + 1) = k + 1 + 1 ∧ (∀ i, i < k + 1 → putM L x (k + 1) i = putM L x k i) ∧ putM L x (k + 1) (k + 1) = L k := by
  have h1 : atL L x.f k < k := by simpa [putB] using h
  have h2 : atL L x.f (k + 1) = atL L x.f k := by rw [atL, if_pos h1]
  have h3 : putB L x.f (k + 1) = true := by simp [putB, h2]; omega
  refine ⟨h3, by rw [putN, if_pos h], by rw [putN, if_pos h3], fun i hi => by rw [putM, putM, if_pos h, if_pos h3, h2], ?_⟩
  rw [putM, if_pos h3, h2, insL, if_neg (by omega), if_neg (by omega)]
  rfl
theorem put_now {L : Nat → Sp} {x : Sp} {k : Nat} (h : putB L x.f k = false) (hx : x.f < (L k).f) : putB L x.f (k + 1) = true ∧ putN L x.f k = k ∧ putN L x.f (k + 1) = k + 1 + 1 ∧ (∀ i, i < k → putM L x (k + 1) i = putM L x k i) ∧ putM L x (k + 1) k = x ∧ putM L x (k + 1) (k + 1) = L k := by
  have h1 : ¬ atL L x.f k < k := by simpa [putB] using h
  have h0 := atL_le L x.f k
  have h2 : atL L x.f (k + 1) = k := by rw [atL, if_neg h1, if_pos hx]
  have h3 : putB L x.f (k + 1) = true := by simp [putB, h2]
  refine ⟨h3, by rw [putN, if_neg (by simp [h])], by rw [putN, if_pos h3], fun i hi => ?_, ?_, ?_⟩
  · rw [putM, putM, if_pos h3, h2, if_neg (by simp [h]), insL, if_pos hi]
  · rw [putM, if_pos h3, h2, insL, if_neg (by omega), if_pos rfl]
  · rw [putM, if_pos h3, h2, insL, if_neg (by omega), if_neg (by omega)]
    rfl
theorem put_not {L : Nat → Sp} {x : Sp} {k : Nat} (h : putB L x.f k = false) (hx : ¬ x.f < (L k).f) : putB L x.f (k + 1) = false ∧ putN L x.f k = k ∧ putN L x.f (k + 1) = k + 1 ∧ (∀ i, i < k → putM L x (k + 1) i = putM L x k i) ∧ putM L x (k + 1) k = L k := by
  have h1 : ¬ atL L x.f k < k := by simpa [putB] using h
  have h2 : atL L x.f (k + 1) = k + 1 := by rw [atL, if_neg h1, if_neg hx]
  have h3 : putB L x.f (k + 1) = false := by simp [putB, h2]
  refine ⟨h3, by rw [putN, if_neg (by simp [h])], by rw [putN, if_neg (by simp [h3])], fun i hi => ?_, ?_⟩
  · rw [putM, putM, if_neg (by simp [h3]), if_neg (by simp [h])]
  · rw [putM, if_neg (by simp [h3])]
theorem put_end {L : Nat → Sp} {x : Sp} {n : Nat} (h : putB L x.f n = true) : putN L x.f n = n + 1 ∧ putM L x n = addL n L x := ⟨by rw [putN, if_pos h], by rw [putM, if_pos h, addL]⟩
theorem put_last {L : Nat → Sp} {x : Sp} {n : Nat} (h : putB L x.f n = false) : putN L x.f n = n ∧ (∀ i, i < n → addL n L x i = putM L x n i) ∧ addL n L x n = x := by
  have h1 : ¬ atL L x.f n < n := by simpa [putB] using h
  have h0 := atL_le L x.f n
  have h2 : atL L x.f n = n := by omega
  refine ⟨by rw [putN, if_neg (by simp [h])], fun i hi => ?_, ?_⟩
  · rw [addL, putM, if_neg (by simp [h]), h2, insL, if_pos hi]
  · rw [addL, h2, insL, if_neg (by omega), if_pos rfl]
theorem OwL.raw {w : World} {base n : Nat} {v : Value} {L : Nat → Sp} (h : OwL w base v n L) : w.ownsRow base 29 4 v n (((List.range n).map L).flatMap Sp.cells) := h
theorem OwL.cast {w : World} {base m m' : Nat} {v : Value} {M : Nat → Sp} (h : OwL w base v m M) (e : m = m') : OwL w base v m' M := e ▸ h

set_option maxRecDepth 8000 in
set_option maxHeartbeats 6400000 in
theorem sAddSpell (w : World) (ad : Addr) (n c : Nat) (L : Nat → Sp) (x : Sp) (h : RdSp w w.heap.size (some ad) n L) (hn : n ≤ 1048578) :
    Calls Try.prog 39 #[.slice (some ad) n c, x.val] w fun e w' => ∃ (B : Option Addr) (cc : Nat), e = .returned (.tuple #[.slice B (addN n L x) cc, .bool (addOk n L x)]) ∧ OwR w' w.heap.size 29 4 (.slice B (addN n L x) cc) (addN n L x) (spAt (addM n L x)) ∧ Below w.heap.size w w' := by
  have hn1 := h.1
  obtain ⟨i0, hi, hz0, hz1, hz2⟩ := info_parts sp_inf
  have hbb : Below w.heap.size w ((w.alloc (.cells #[.int .i64 x.f, .int .i64 x.t, .int .i64 x.p, .bool x.v] 29)).alloc (.cells #[] 29)) := (by (repeat (first | (with_reducible exact Below.refl _ _) | ((with_reducible refine Below.alloc ?_ ?_ _); rotate_left; focus (first | exact Nat.le_refl _ | omega | (simp; done) | (simp; omega))))))
  have pX0 : Whole ((w.alloc (.cells #[.int .i64 x.f, .int .i64 x.t, .int .i64 x.p, .bool x.v] 29)).alloc (.cells #[] 29)) w.heap.size 29 #[.int .i64 x.f, .int .i64 x.t, .int .i64 x.p, .bool x.v] := (Whole.new w _ _).alloc _
  have own0 : OwL ((w.alloc (.cells #[.int .i64 x.f, .int .i64 x.t, .int .i64 x.p, .bool x.v] 29)).alloc (.cells #[] 29)) (w.heap.size + 1) (.slice (some ⟨w.heap.size + 1, 0, none⟩) 0 0) (putN L x.f 0) (putM L x 0) := by have k := own_empty (w.alloc (.cells #[.int .i64 x.f, .int .i64 x.t, .int .i64 x.p, .bool x.v] 29)) (w.heap.size + 1) 29 4 (by simp); simpa [OwL, putN, putB, atL] using k
  have hpb0 : putB L x.f 0 = false := rfl
  have hno : addOk n L x = false → ∀ (B : Option Addr) (cc : Nat) (w' : World), OwR w' w.heap.size 29 4 (.slice B n cc) n (spAt L) → Below w.heap.size w w' → ∃ (B' : Option Addr) (cc' : Nat), Ending.returned (.tuple #[.slice B n cc, .bool false]) = .returned (.tuple #[.slice B' (addN n L x) cc', .bool (addOk n L x)]) ∧ OwR w' w.heap.size 29 4 (.slice B' (addN n L x) cc') (addN n L x) (spAt (addM n L x)) ∧ Below w.heap.size w w' := fun hk B cc w' h1 h2 => by
    have e1 : addN n L x = n := by rw [addN, hk]; rfl
    have e2 : addM n L x = L := by rw [addM, hk]; rfl
    rw [e1, e2, hk]
    exact ⟨B, cc, rfl, h1, h2⟩
  have hye : addOk n L x = true → ∀ (B : Option Addr) (cc : Nat) (w' : World), OwR w' w.heap.size 29 4 (.slice B (n + 1) cc) (n + 1) (spAt (addL n L x)) → Below w.heap.size w w' → ∃ (B' : Option Addr) (cc' : Nat), Ending.returned (.tuple #[.slice B (n + 1) cc, .bool true]) = .returned (.tuple #[.slice B' (addN n L x) cc', .bool (addOk n L x)]) ∧ OwR w' w.heap.size 29 4 (.slice B' (addN n L x) cc') (addN n L x) (spAt (addM n L x)) ∧ Below w.heap.size w w' := fun hk B cc w' h1 h2 => by
    have e1 : addN n L x = (n + 1) := by rw [addN, hk]; rfl
    have e2 : addM n L x = (addL n L x) := by rw [addM, hk]; rfl
    rw [e1, e2, hk]
    exact ⟨B, cc, rfl, h1, h2⟩
  have HNO := Lib.hid hno
  have HYES := Lib.hid hye
  clear hno hye
  go_enter Try.func39, Try.ntmps39
  go_wp2_with fail
  go_loopw [6, 7, 8] (fun s6 s7 s8 wr => ∃ k : Nat, k ≤ n ∧ s8 = .int .i64 k ∧ s7 = .bool (putB L x.f k) ∧ OwL wr (w.heap.size + 1) s6 (putN L x.f k) (putM L x k) ∧ Whole wr w.heap.size 29 #[.int .i64 x.f, .int .i64 x.t, .int .i64 x.p, .bool x.v] ∧ Below w.heap.size w wr) (fun _ _ i _ => n - (intOf i).toNat)
  case atStart => exact ⟨0, Nat.zero_le _, rfl, by rw [hpb0], by simpa using own0, pX0, hbb⟩
  case round =>
    clear own0 pX0 hbb hpb0
    obtain ⟨k, hk, rfl, rfl, own, pX, hbr⟩ := hrel
    have hs1 := hbr.size
    have hxl := pX.lt
    by_cases hlt : k < n
    · obtain ⟨b, off, hA, hbB, h0, h1, h2, h3⟩ := (h.below hbr).2 k hlt
      injection hA with hA
      subst hA
      have hlt2 : (k : Int) < n := by omega
      have hbw : b < wr.heap.size := by omega
      have hbne : ¬ b = wr.heap.size := by omega
      have hxne : ¬ w.heap.size = wr.heap.size := by omega
      clear h
      cases hp : putB L x.f k
      · cases hd : decide (x.f < (L k).f)
        · obtain ⟨e1, e2, e3, e4, e5⟩ := put_not hp (by simpa using hd)
          have ownq := own.cast e2
          clear own
          obtain ⟨B, cc, rfl⟩ := ownq.ow.form
          have HE := Lib.hid (And.intro e1 (And.intro e3 (And.intro e4 e5)))
          clear e1 e2 e3 e4 e5 hp
          have x0 : wr.cell? ⟨w.heap.size, 0, none⟩ = some (.int .i64 x.f) := pX.cell 0
          have x1 : wr.cell? ⟨w.heap.size, 1, none⟩ = some (.int .i64 x.t) := pX.cell 1
          have x2 : wr.cell? ⟨w.heap.size, 2, none⟩ = some (.int .i64 x.p) := pX.cell 2
          have x3 : wr.cell? ⟨w.heap.size, 3, none⟩ = some (.bool x.v) := pX.cell 3
          go_wp2_with fail
          go_quiet (fail)
          have hbr6 : Below w.heap.size w (wr.drewN nq) := below_drewN hbr _
          have own6 : OwL (wr.drewN nq) (w.heap.size + 1) (.slice B k cc) k (putM L x k) := ownq
          have pX6 : Whole (wr.drewN nq) w.heap.size 29 #[.int .i64 x.f, .int .i64 x.t, .int .i64 x.p, .bool x.v] := pX
          have q0 : (wr.drewN nq).cell? ⟨b, off + k * 4, none⟩ = some (.int .i64 (L k).f) := h0
          have q1 : (wr.drewN nq).cell? ⟨b, off + k * 4 + 1, none⟩ = some (.int .i64 (L k).t) := h1
          have q2 : (wr.drewN nq).cell? ⟨b, off + k * 4 + 2, none⟩ = some (.int .i64 (L k).p) := h2
          have q3 : (wr.drewN nq).cell? ⟨b, off + k * 4 + 3, none⟩ = some (.bool (L k).v) := h3
          have hs6 : (wr.drewN nq).heap.size = wr.heap.size := rfl
          generalize wr.drewN nq = wq at hbr6 own6 pX6 q0 q1 q2 q3 hs6 ⊢
          clear h0 h1 h2 h3 x0 x1 x2 x3 ownq pX hbr
          have hbw6 : b < wq.heap.size := by omega
          have hbne6 : ¬ b = wq.heap.size := by omega
          have hxne6 : ¬ w.heap.size = wq.heap.size := by omega
          clear hs6
          have hs_ := hbr6.size
          go_wp2_with (at_builtin; refine wpList_append_own_at _ rfl _ _ 24 rfl (w.heap.size + 1) 29 i0 (.agg #[.int .i64 0, .int .i64 0, .int .i64 0, .bool false]) 4 32 Try.underlying24 hi hz0 hz1 hz2 rfl (by decide) _ _ _ rfl (own6.raw.alloc (.cells #[.int .i64 (L k).f, .int .i64 (L k).t, .int .i64 (L k).p, .bool (L k).v] 29)) ⟨wq.heap.size, 0, none⟩ 1 1 [.int .i64 (L k).f, .int .i64 (L k).t, .int .i64 (L k).p, .bool (L k).v] rfl rfl (sp_new wq [.int .i64 (L k).f, .int .i64 (L k).t, .int .i64 (L k).p, .bool (L k).v] 29) ?m2_3 ?m2_4 ?m2_5 ?m2_6 ?_)
          case m2_3 => simp [Value.oneCell']
          case m2_4 => unfold maxLen; omega
          case m2_5 => omega
          try (case m2_6 => first | (simp; done) | (simp; omega) | (simp [hs_]; done))
          intro v' w7 hown7 hg7 _ hat7
          have hB7 : Below w.heap.size w w7 := (hbr6.alloc hs_ _).grown hg7 (by simp; omega) (fun q hq => by have := (own6.lt q hq).1; omega)
          have pX7 : Whole w7 w.heap.size 29 #[.int .i64 x.f, .int .i64 x.t, .int .i64 x.p, .bool x.v] := (pX6.alloc _).grown hg7 (fun e => by have := (own6.lt _ e.symm).1; omega)
          clear hat7 hg7 hs_
          clear q0 q1 q2 q3
          go_wp2_with fail
          go_roundw
          case rel => exact ⟨k + 1, by omega, by go_num, by rw [HE.out.1], (OwL.snoc (M := putM L x k) (s := L k) (by first | exact hown7 | simpa [List.range_succ] using hown7) HE.out.2.2.1 HE.out.2.2.2).cast HE.out.2.1.symm, pX7, hB7⟩
          case measure => simp [intOf]; omega
        · obtain ⟨e1, e2, e3, e4, e5, e6⟩ := put_now hp (by simpa using hd)
          have ownq := own.cast e2
          clear own
          obtain ⟨B, cc, rfl⟩ := ownq.ow.form
          have HE := Lib.hid (And.intro e1 (And.intro e3 (And.intro e4 (And.intro e5 e6))))
          clear e1 e2 e3 e4 e5 e6 hp
          have x0 : wr.cell? ⟨w.heap.size, 0, none⟩ = some (.int .i64 x.f) := pX.cell 0
          have x1 : wr.cell? ⟨w.heap.size, 1, none⟩ = some (.int .i64 x.t) := pX.cell 1
          have x2 : wr.cell? ⟨w.heap.size, 2, none⟩ = some (.int .i64 x.p) := pX.cell 2
          have x3 : wr.cell? ⟨w.heap.size, 3, none⟩ = some (.bool x.v) := pX.cell 3
          go_wp2_with fail
          go_quiet (fail)
          have hbr6 : Below w.heap.size w (wr.drewN nq) := below_drewN hbr _
          have own6 : OwL (wr.drewN nq) (w.heap.size + 1) (.slice B k cc) k (putM L x k) := ownq
          have pX6 : Whole (wr.drewN nq) w.heap.size 29 #[.int .i64 x.f, .int .i64 x.t, .int .i64 x.p, .bool x.v] := pX
          have q0 : (wr.drewN nq).cell? ⟨b, off + k * 4, none⟩ = some (.int .i64 (L k).f) := h0
          have q1 : (wr.drewN nq).cell? ⟨b, off + k * 4 + 1, none⟩ = some (.int .i64 (L k).t) := h1
          have q2 : (wr.drewN nq).cell? ⟨b, off + k * 4 + 2, none⟩ = some (.int .i64 (L k).p) := h2
          have q3 : (wr.drewN nq).cell? ⟨b, off + k * 4 + 3, none⟩ = some (.bool (L k).v) := h3
          have hs6 : (wr.drewN nq).heap.size = wr.heap.size := rfl
          generalize wr.drewN nq = wq at hbr6 own6 pX6 q0 q1 q2 q3 hs6 ⊢
          clear h0 h1 h2 h3 x0 x1 x2 x3 ownq pX hbr
          have hbw6 : b < wq.heap.size := by omega
          have hbne6 : ¬ b = wq.heap.size := by omega
          have hxne6 : ¬ w.heap.size = wq.heap.size := by omega
          clear hs6
          have y0 : wq.cell? ⟨w.heap.size, 0, none⟩ = some (.int .i64 x.f) := pX6.cell 0
          have y1 : wq.cell? ⟨w.heap.size, 1, none⟩ = some (.int .i64 x.t) := pX6.cell 1
          have y2 : wq.cell? ⟨w.heap.size, 2, none⟩ = some (.int .i64 x.p) := pX6.cell 2
          have y3 : wq.cell? ⟨w.heap.size, 3, none⟩ = some (.bool x.v) := pX6.cell 3
          have hs_ := hbr6.size
          go_wp2_with (at_builtin; refine wpList_append_own_at _ rfl _ _ 24 rfl (w.heap.size + 1) 29 i0 (.agg #[.int .i64 0, .int .i64 0, .int .i64 0, .bool false]) 4 32 Try.underlying24 hi hz0 hz1 hz2 rfl (by decide) _ _ _ rfl (own6.raw.alloc (.cells #[.int .i64 x.f, .int .i64 x.t, .int .i64 x.p, .bool x.v] 29)) ⟨wq.heap.size, 0, none⟩ 1 1 [.int .i64 x.f, .int .i64 x.t, .int .i64 x.p, .bool x.v] rfl rfl (sp_new wq [.int .i64 x.f, .int .i64 x.t, .int .i64 x.p, .bool x.v] 29) ?m3_3 ?m3_4 ?m3_5 ?m3_6 ?_)
          case m3_3 => simp [Value.oneCell']
          case m3_4 => unfold maxLen; omega
          case m3_5 => omega
          try (case m3_6 => first | (simp; done) | (simp; omega) | (simp [hs_]; done))
          intro v' w5 hown5 hg5 _ hat5
          have hB5 : Below w.heap.size w w5 := (hbr6.alloc hs_ _).grown hg5 (by simp; omega) (fun q hq => by have := (own6.lt q hq).1; omega)
          have pX5 : Whole w5 w.heap.size 29 #[.int .i64 x.f, .int .i64 x.t, .int .i64 x.p, .bool x.v] := (pX6.alloc _).grown hg5 (fun e => by have := (own6.lt _ e.symm).1; omega)
          clear hat5 hg5 hs_
          have own5 : OwL w5 (w.heap.size + 1) v' (k + 1) (putM L x (k + 1)) := OwL.snoc hown5 HE.out.2.2.1 HE.out.2.2.2.1
          clear hown5
          obtain ⟨B5, cc5, rfl⟩ := own5.ow.form
          have hbl : b < w.heap.size := hbB
          have hk6 := fun o => (hB5.cell (p := ⟨b, o, none⟩) hbl).trans (hbr6.cell (p := ⟨b, o, none⟩) hbl).symm
          have hs5 := hB5.size
          have r0 : w5.cell? ⟨b, off + k * 4, none⟩ = some (.int .i64 (L k).f) := (hk6 _).trans q0
          have r1 : w5.cell? ⟨b, off + k * 4 + 1, none⟩ = some (.int .i64 (L k).t) := (hk6 _).trans q1
          have r2 : w5.cell? ⟨b, off + k * 4 + 2, none⟩ = some (.int .i64 (L k).p) := (hk6 _).trans q2
          have r3 : w5.cell? ⟨b, off + k * 4 + 3, none⟩ = some (.bool (L k).v) := (hk6 _).trans q3
          clear q0 q1 q2 q3 y0 y1 y2 y3 hk6 own6 pX6 hbr6 hbw6 hbne6 hxne6
          have hbw5 : b < w5.heap.size := by omega
          have hbne5 : ¬ b = w5.heap.size := by omega
          have hs_ := hB5.size
          go_wp2_with (at_builtin; refine wpList_append_own_at _ rfl _ _ 24 rfl (w.heap.size + 1) 29 i0 (.agg #[.int .i64 0, .int .i64 0, .int .i64 0, .bool false]) 4 32 Try.underlying24 hi hz0 hz1 hz2 rfl (by decide) _ _ _ rfl (own5.raw.alloc (.cells #[.int .i64 (L k).f, .int .i64 (L k).t, .int .i64 (L k).p, .bool (L k).v] 29)) ⟨w5.heap.size, 0, none⟩ 1 1 [.int .i64 (L k).f, .int .i64 (L k).t, .int .i64 (L k).p, .bool (L k).v] rfl rfl (sp_new w5 [.int .i64 (L k).f, .int .i64 (L k).t, .int .i64 (L k).p, .bool (L k).v] 29) ?m4_3 ?m4_4 ?m4_5 ?m4_6 ?_)
          case m4_3 => simp [Value.oneCell']
          case m4_4 => unfold maxLen; omega
          case m4_5 => omega
          try (case m4_6 => first | (simp; done) | (simp; omega) | (simp [hs_]; done))
          intro v' w7 hown7 hg7 _ hat7
          have hB7 : Below w.heap.size w w7 := (hB5.alloc hs_ _).grown hg7 (by simp; omega) (fun q hq => by have := (own5.lt q hq).1; omega)
          have pX7 : Whole w7 w.heap.size 29 #[.int .i64 x.f, .int .i64 x.t, .int .i64 x.p, .bool x.v] := (pX5.alloc _).grown hg7 (fun e => by have := (own5.lt _ e.symm).1; omega)
          clear hat7 hg7 hs_
          clear r0 r1 r2 r3
          go_wp2_with fail
          go_roundw
          case rel => exact ⟨k + 1, by omega, by go_num, by rw [HE.out.1], (OwL.snoc (m := k + 1) (M := putM L x (k + 1)) (s := L k) (by first | exact hown7 | simpa [List.range_succ] using hown7) (fun i hi => rfl) HE.out.2.2.2.2).cast HE.out.2.1.symm, pX7, hB7⟩
          case measure => simp [intOf]; omega
      · obtain ⟨e1, e2, e3, e4, e5⟩ := put_yes hp
        have ownq := own.cast e2
        clear own
        obtain ⟨B, cc, rfl⟩ := ownq.ow.form
        have HE := Lib.hid (And.intro e1 (And.intro e3 (And.intro e4 e5)))
        clear e1 e2 e3 e4 e5 hp
        have x0 : wr.cell? ⟨w.heap.size, 0, none⟩ = some (.int .i64 x.f) := pX.cell 0
        have x1 : wr.cell? ⟨w.heap.size, 1, none⟩ = some (.int .i64 x.t) := pX.cell 1
        have x2 : wr.cell? ⟨w.heap.size, 2, none⟩ = some (.int .i64 x.p) := pX.cell 2
        have x3 : wr.cell? ⟨w.heap.size, 3, none⟩ = some (.bool x.v) := pX.cell 3
        go_wp2_with fail
        go_quiet (fail)
        have hbr6 : Below w.heap.size w (wr.drewN nq) := below_drewN hbr _
        have own6 : OwL (wr.drewN nq) (w.heap.size + 1) (.slice B (k + 1) cc) (k + 1) (putM L x k) := ownq
        have pX6 : Whole (wr.drewN nq) w.heap.size 29 #[.int .i64 x.f, .int .i64 x.t, .int .i64 x.p, .bool x.v] := pX
        have q0 : (wr.drewN nq).cell? ⟨b, off + k * 4, none⟩ = some (.int .i64 (L k).f) := h0
        have q1 : (wr.drewN nq).cell? ⟨b, off + k * 4 + 1, none⟩ = some (.int .i64 (L k).t) := h1
        have q2 : (wr.drewN nq).cell? ⟨b, off + k * 4 + 2, none⟩ = some (.int .i64 (L k).p) := h2
        have q3 : (wr.drewN nq).cell? ⟨b, off + k * 4 + 3, none⟩ = some (.bool (L k).v) := h3
        have hs6 : (wr.drewN nq).heap.size = wr.heap.size := rfl
        generalize wr.drewN nq = wq at hbr6 own6 pX6 q0 q1 q2 q3 hs6 ⊢
        clear h0 h1 h2 h3 x0 x1 x2 x3 ownq pX hbr
        have hbw6 : b < wq.heap.size := by omega
        have hbne6 : ¬ b = wq.heap.size := by omega
        have hxne6 : ¬ w.heap.size = wq.heap.size := by omega
        clear hs6
        have hs_ := hbr6.size
        go_wp2_with (at_builtin; refine wpList_append_own_at _ rfl _ _ 24 rfl (w.heap.size + 1) 29 i0 (.agg #[.int .i64 0, .int .i64 0, .int .i64 0, .bool false]) 4 32 Try.underlying24 hi hz0 hz1 hz2 rfl (by decide) _ _ _ rfl (own6.raw.alloc (.cells #[.int .i64 (L k).f, .int .i64 (L k).t, .int .i64 (L k).p, .bool (L k).v] 29)) ⟨wq.heap.size, 0, none⟩ 1 1 [.int .i64 (L k).f, .int .i64 (L k).t, .int .i64 (L k).p, .bool (L k).v] rfl rfl (sp_new wq [.int .i64 (L k).f, .int .i64 (L k).t, .int .i64 (L k).p, .bool (L k).v] 29) ?m1_3 ?m1_4 ?m1_5 ?m1_6 ?_)
        case m1_3 => simp [Value.oneCell']
        case m1_4 => unfold maxLen; omega
        case m1_5 => omega
        try (case m1_6 => first | (simp; done) | (simp; omega) | (simp [hs_]; done))
        intro v' w7 hown7 hg7 _ hat7
        have hB7 : Below w.heap.size w w7 := (hbr6.alloc hs_ _).grown hg7 (by simp; omega) (fun q hq => by have := (own6.lt q hq).1; omega)
        have pX7 : Whole w7 w.heap.size 29 #[.int .i64 x.f, .int .i64 x.t, .int .i64 x.p, .bool x.v] := (pX6.alloc _).grown hg7 (fun e => by have := (own6.lt _ e.symm).1; omega)
        clear hat7 hg7 hs_
        clear q0 q1 q2 q3
        go_wp2_with fail
        go_roundw
        case rel => exact ⟨k + 1, by omega, by go_num, by rw [HE.out.1], (OwL.snoc (M := putM L x k) (s := L k) (by first | exact hown7 | simpa [List.range_succ] using hown7) HE.out.2.2.1 HE.out.2.2.2).cast HE.out.2.1.symm, pX7, hB7⟩
        case measure => simp [intOf]; omega
    · have hkn : n = k := by omega
      subst hkn
      have hge : ¬ (n : Int) < n := by omega
      cases hp : putB L x.f n
      · obtain ⟨e2, e4, e5⟩ := put_last hp
        have ownq := own.cast e2
        clear own hp e2
        obtain ⟨B0, cc0, rfl⟩ := ownq.ow.form
        have x0 : wr.cell? ⟨w.heap.size, 0, none⟩ = some (.int .i64 x.f) := pX.cell 0
        have x1 : wr.cell? ⟨w.heap.size, 1, none⟩ = some (.int .i64 x.t) := pX.cell 1
        have x2 : wr.cell? ⟨w.heap.size, 2, none⟩ = some (.int .i64 x.p) := pX.cell 2
        have x3 : wr.cell? ⟨w.heap.size, 3, none⟩ = some (.bool x.v) := pX.cell 3
        have hs_ := hbr.size
        go_wp2_with (at_builtin; refine wpList_append_own_at _ rfl _ _ 24 rfl (w.heap.size + 1) 29 i0 (.agg #[.int .i64 0, .int .i64 0, .int .i64 0, .bool false]) 4 32 Try.underlying24 hi hz0 hz1 hz2 rfl (by decide) _ _ _ rfl (ownq.raw.alloc (.cells #[.int .i64 x.f, .int .i64 x.t, .int .i64 x.p, .bool x.v] 29)) ⟨wr.heap.size, 0, none⟩ 1 1 [.int .i64 x.f, .int .i64 x.t, .int .i64 x.p, .bool x.v] rfl rfl (sp_new wr [.int .i64 x.f, .int .i64 x.t, .int .i64 x.p, .bool x.v] 29) ?m5_3 ?m5_4 ?m5_5 ?m5_6 ?_)
        case m5_3 => simp [Value.oneCell']
        case m5_4 => unfold maxLen; omega
        case m5_5 => omega
        try (case m5_6 => first | (simp; done) | (simp; omega) | (simp [hs_]; done))
        intro v' w5 hown5 hg5 _ hat5
        have hB5 : Below w.heap.size w w5 := (hbr.alloc hs_ _).grown hg5 (by simp; omega) (fun q hq => by have := (ownq.lt q hq).1; omega)
        have pX5 : Whole w5 w.heap.size 29 #[.int .i64 x.f, .int .i64 x.t, .int .i64 x.p, .bool x.v] := (pX.alloc _).grown hg5 (fun e => by have := (ownq.lt _ e.symm).1; omega)
        clear hat5 hg5 hs_
        have own5 : OwR w5 w.heap.size 29 4 v' (n + 1) (spAt (addL n L x)) := (OwL.snoc hown5 e4 e5).ow.less (by omega)
        clear hown5 e4 e5 x0 x1 x2 x3 ownq pX pX5
        obtain ⟨B, cc, rfl⟩ := own5.form
        have hrd := RdSp.own own5
        have hl := (h.below hB5).more hB5.size
        cases t1 : spOk n L
        · have CS := sSpellsOk w5 (some ad) n c L hl
          simp only [t1] at CS
          have hk0 : addOk n L x = false := by rw [addOk, t1]; rfl
          clear t1
          go_wp2_with fail
          refine (CS).mono ?_
          rintro e w9 ⟨rfl, hb9⟩
          have hB9 := hB5.trans (hb9.mono hB5.size)
          clear CS hb9 hrd hl
          have hown_ := own_empty w9 w.heap.size 29 4 hB9.size
          have hbx_ : Below w.heap.size w (w9.alloc (.cells #[] 29)) := hB9.alloc hB9.size _
          have hh_ := h.below hbx_
          have hs_ := hbx_.size
          go_wp2_with (at_builtin; refine wpList_append_own_at _ rfl _ _ 24 rfl w.heap.size 29 i0 (.agg #[.int .i64 0, .int .i64 0, .int .i64 0, .bool false]) 4 32 Try.underlying24 hi hz0 hz1 hz2 rfl (by decide) _ _ _ rfl hown_ ad n c (((List.range n).map L).flatMap Sp.cells) rfl ?m6_1 ?m6_2 ?m6_3 ?m6_4 ?m6_5 ?m6_6 ?_)
          case m6_1 => exact sp_flat_len L n
          case m6_2 => exact hh_.news
          case m6_3 => exact sp_one L n
          case m6_4 => unfold maxLen; omega
          case m6_5 => omega
          try (case m6_6 => simpa using hs_)
          intro v' w8 hown8 hg8 _ hat8
          have hB8 : Below w.heap.size w w8 := hbx_.grown hg8 hs_ (fun q hq => by simp [Value.ownBlock] at hq; have := hB9.size; omega)
          have ow8 : OwL w8 w.heap.size v' n L := by simpa [OwL] using hown8
          clear hown8 hg8 hat8 hown_ hbx_ hh_
          obtain ⟨D, cd, rfl⟩ := ow8.ow.form
          go_wp2_with fail
          refine bodyPost_ret (v := .tuple #[.slice D n cd, .bool false]) (by simp [results, Try.results39, go_sem]) rfl (HNO.out hk0 D cd _ ow8.ow hB8)
        · have CS := sSpellsOk w5 (some ad) n c L hl
          simp only [t1] at CS
          cases t2 : spOk (n + 1) (addL n L x)
          · have hk0 : addOk n L x = false := by rw [addOk, t1, t2]; rfl
            clear t1
            go_wp2_with fail
            refine (CS).mono ?_
            rintro e w9 ⟨rfl, hb9⟩
            have hB9 := hB5.trans (hb9.mono hB5.size)
            have CT := sSpellsOk w9 B (n + 1) cc _ ((hrd.below hb9).more hb9.size)
            simp only [t2] at CT
            clear CS hb9 hrd hl t2
            go_wp2_with fail
            refine (CT).mono ?_
            rintro e w10 ⟨rfl, hb10⟩
            have hB10 := hB9.trans (hb10.mono hB9.size)
            clear CT hb10
            have hown_ := own_empty w10 w.heap.size 29 4 hB10.size
            have hbx_ : Below w.heap.size w (w10.alloc (.cells #[] 29)) := hB10.alloc hB10.size _
            have hh_ := h.below hbx_
            have hs_ := hbx_.size
            go_wp2_with (at_builtin; refine wpList_append_own_at _ rfl _ _ 24 rfl w.heap.size 29 i0 (.agg #[.int .i64 0, .int .i64 0, .int .i64 0, .bool false]) 4 32 Try.underlying24 hi hz0 hz1 hz2 rfl (by decide) _ _ _ rfl hown_ ad n c (((List.range n).map L).flatMap Sp.cells) rfl ?m7_1 ?m7_2 ?m7_3 ?m7_4 ?m7_5 ?m7_6 ?_)
            case m7_1 => exact sp_flat_len L n
            case m7_2 => exact hh_.news
            case m7_3 => exact sp_one L n
            case m7_4 => unfold maxLen; omega
            case m7_5 => omega
            try (case m7_6 => simpa using hs_)
            intro v' w8 hown8 hg8 _ hat8
            have hB8 : Below w.heap.size w w8 := hbx_.grown hg8 hs_ (fun q hq => by simp [Value.ownBlock] at hq; have := hB10.size; omega)
            have ow8 : OwL w8 w.heap.size v' n L := by simpa [OwL] using hown8
            clear hown8 hg8 hat8 hown_ hbx_ hh_
            obtain ⟨D, cd, rfl⟩ := ow8.ow.form
            go_wp2_with fail
            refine bodyPost_ret (v := .tuple #[.slice D n cd, .bool false]) (by simp [results, Try.results39, go_sem]) rfl (HNO.out hk0 D cd _ ow8.ow hB8)
          · have hk0 : addOk n L x = true := by rw [addOk, t1, t2]; rfl
            clear t1
            go_wp2_with fail
            refine (CS).mono ?_
            rintro e w9 ⟨rfl, hb9⟩
            have hB9 := hB5.trans (hb9.mono hB5.size)
            have own9 := own5.all hb9
            have CT := sSpellsOk w9 B (n + 1) cc _ ((hrd.below hb9).more hb9.size)
            simp only [t2] at CT
            clear CS hb9 hrd hl t2
            go_wp2_with fail
            refine (CT).mono ?_
            rintro e w10 ⟨rfl, hb10⟩
            have hB10 := hB9.trans (hb10.mono hB9.size)
            have own10 := own9.all hb10
            clear CT hb10
            go_wp2_with fail
            refine bodyPost_ret (v := .tuple #[.slice B (n + 1) cc, .bool true]) (by simp [results, Try.results39, go_sem]) rfl (HYES.out hk0 B cc _ own10 hB10)
      · obtain ⟨e2, e4⟩ := put_end hp
        have own4 := own.cast e2
        rw [e4] at own4
        have own5 := own4.ow.less (show w.heap.size ≤ w.heap.size + 1 by omega)
        clear own own4 e2 e4 hp
        obtain ⟨B, cc, rfl⟩ := own5.form
        have hrd := RdSp.own own5
        have hl := (h.below hbr).more hbr.size
        cases t1 : spOk n L
        · have CS := sSpellsOk wr (some ad) n c L hl
          simp only [t1] at CS
          have hk0 : addOk n L x = false := by rw [addOk, t1]; rfl
          clear t1
          go_wp2_with fail
          refine (CS).mono ?_
          rintro e w9 ⟨rfl, hb9⟩
          have hB9 := hbr.trans (hb9.mono hbr.size)
          clear CS hb9 hrd hl
          have hown_ := own_empty w9 w.heap.size 29 4 hB9.size
          have hbx_ : Below w.heap.size w (w9.alloc (.cells #[] 29)) := hB9.alloc hB9.size _
          have hh_ := h.below hbx_
          have hs_ := hbx_.size
          go_wp2_with (at_builtin; refine wpList_append_own_at _ rfl _ _ 24 rfl w.heap.size 29 i0 (.agg #[.int .i64 0, .int .i64 0, .int .i64 0, .bool false]) 4 32 Try.underlying24 hi hz0 hz1 hz2 rfl (by decide) _ _ _ rfl hown_ ad n c (((List.range n).map L).flatMap Sp.cells) rfl ?m8_1 ?m8_2 ?m8_3 ?m8_4 ?m8_5 ?m8_6 ?_)
          case m8_1 => exact sp_flat_len L n
          case m8_2 => exact hh_.news
          case m8_3 => exact sp_one L n
          case m8_4 => unfold maxLen; omega
          case m8_5 => omega
          try (case m8_6 => simpa using hs_)
          intro v' w8 hown8 hg8 _ hat8
          have hB8 : Below w.heap.size w w8 := hbx_.grown hg8 hs_ (fun q hq => by simp [Value.ownBlock] at hq; have := hB9.size; omega)
          have ow8 : OwL w8 w.heap.size v' n L := by simpa [OwL] using hown8
          clear hown8 hg8 hat8 hown_ hbx_ hh_
          obtain ⟨D, cd, rfl⟩ := ow8.ow.form
          go_wp2_with fail
          refine bodyPost_ret (v := .tuple #[.slice D n cd, .bool false]) (by simp [results, Try.results39, go_sem]) rfl (HNO.out hk0 D cd _ ow8.ow hB8)
        · have CS := sSpellsOk wr (some ad) n c L hl
          simp only [t1] at CS
          cases t2 : spOk (n + 1) (addL n L x)
          · have hk0 : addOk n L x = false := by rw [addOk, t1, t2]; rfl
            clear t1
            go_wp2_with fail
            refine (CS).mono ?_
            rintro e w9 ⟨rfl, hb9⟩
            have hB9 := hbr.trans (hb9.mono hbr.size)
            have CT := sSpellsOk w9 B (n + 1) cc _ ((hrd.below hb9).more hb9.size)
            simp only [t2] at CT
            clear CS hb9 hrd hl t2
            go_wp2_with fail
            refine (CT).mono ?_
            rintro e w10 ⟨rfl, hb10⟩
            have hB10 := hB9.trans (hb10.mono hB9.size)
            clear CT hb10
            have hown_ := own_empty w10 w.heap.size 29 4 hB10.size
            have hbx_ : Below w.heap.size w (w10.alloc (.cells #[] 29)) := hB10.alloc hB10.size _
            have hh_ := h.below hbx_
            have hs_ := hbx_.size
            go_wp2_with (at_builtin; refine wpList_append_own_at _ rfl _ _ 24 rfl w.heap.size 29 i0 (.agg #[.int .i64 0, .int .i64 0, .int .i64 0, .bool false]) 4 32 Try.underlying24 hi hz0 hz1 hz2 rfl (by decide) _ _ _ rfl hown_ ad n c (((List.range n).map L).flatMap Sp.cells) rfl ?m9_1 ?m9_2 ?m9_3 ?m9_4 ?m9_5 ?m9_6 ?_)
            case m9_1 => exact sp_flat_len L n
            case m9_2 => exact hh_.news
            case m9_3 => exact sp_one L n
            case m9_4 => unfold maxLen; omega
            case m9_5 => omega
            try (case m9_6 => simpa using hs_)
            intro v' w8 hown8 hg8 _ hat8
            have hB8 : Below w.heap.size w w8 := hbx_.grown hg8 hs_ (fun q hq => by simp [Value.ownBlock] at hq; have := hB10.size; omega)
            have ow8 : OwL w8 w.heap.size v' n L := by simpa [OwL] using hown8
            clear hown8 hg8 hat8 hown_ hbx_ hh_
            obtain ⟨D, cd, rfl⟩ := ow8.ow.form
            go_wp2_with fail
            refine bodyPost_ret (v := .tuple #[.slice D n cd, .bool false]) (by simp [results, Try.results39, go_sem]) rfl (HNO.out hk0 D cd _ ow8.ow hB8)
          · have hk0 : addOk n L x = true := by rw [addOk, t1, t2]; rfl
            clear t1
            go_wp2_with fail
            refine (CS).mono ?_
            rintro e w9 ⟨rfl, hb9⟩
            have hB9 := hbr.trans (hb9.mono hbr.size)
            have own9 := own5.all hb9
            have CT := sSpellsOk w9 B (n + 1) cc _ ((hrd.below hb9).more hb9.size)
            simp only [t2] at CT
            clear CS hb9 hrd hl t2
            go_wp2_with fail
            refine (CT).mono ?_
            rintro e w10 ⟨rfl, hb10⟩
            have hB10 := hB9.trans (hb10.mono hB9.size)
            have own10 := own9.all hb10
            clear CT hb10
            go_wp2_with fail
            refine bodyPost_ret (v := .tuple #[.slice B (n + 1) cc, .bool true]) (by simp [results, Try.results39, go_sem]) rfl (HYES.out hk0 B cc _ own10 hB10)
end Go.Proofs.Ytmbmpogdakoloaa
