/- Copies of nodes and of books, and AddRule, of the program. Conditions: the rules can be read. -/
import Derived.Test.YtjnckhdmaebfdaaAddR
import Derived.Deep.Cut
import Derived.Lib.SliceRun
namespace Go.Proofs.Ytjnckhdmaebfdaa
open Go.RowKit

set_option linter.unusedVariables false
theorem OwB.fresh {w : World} {base : Nat} {v : Value} {xs : List Rn} (h : OwB w base v xs) {b : Nat} (hv : ∀ q, v.ownBlock = some q → q < b) (hn : ∀ i, i < xs.length → ∀ q, (nsl (xs.getD i Rn.zero)).ownBlock = some q → q < b) (o : Nat) (u : Value) : OwB (w.setCell ⟨b, o, none⟩ u) base v xs :=
  ⟨h.1.kept (row := some b) (grown_setCell (grown_refl _ _) rfl u) (.inr fun e => by have := hv b e; omega), h.2.kept (row := some b) (grown_setCell (grown_refl _ _) rfl u) fun i hi q hq e => by injection e with e; have := hn i hi q hq; omega⟩
set_option maxRecDepth 4000 in
set_option maxHeartbeats 3200000 in
theorem iClone (w : World) (A : Option Addr) (n c : Nat) (N : Nat → No) (h : RdNo w w.heap.size A n N) (hA : A = none → n = 0 ∧ c = 0) (hn : n ≤ 1048576) :
    Calls Try.prog 90 #[.slice A n c] w fun e w' => ∃ (B : Option Addr) (cc : Nat), e = .returned (.slice B n cc) ∧ OwR w' w.heap.size 65 6 (.slice B n cc) n (noAt N) ∧ Below w.heap.size w w' := by
  obtain ⟨i0, hi, hz0, hz1, hz2⟩ := info_parts no_inf
  have q0 : ∀ (w : World) (a : Option Addr) (n c n' c' : Nat), (binOp .eql 27 (.slice a n c) (.slice none n' c')).run Try.prog w = .ok (.bool a.isNone) w := fun w a n c n' c' => Lib.run_eql_slice_nil w _ _ a n c n' c' Try.underlying27
  cases A with
  | none =>
    obtain ⟨rfl, rfl⟩ := hA rfl
    go_enter Try.func90, Try.ntmps90
    go_wp2_with fail
    go_ret
    exact ⟨none, 0, rfl, .inl ⟨rfl, rfl⟩, Below.refl _ _⟩
  | some ad =>
    have hown := own_empty w w.heap.size 65 6 (Nat.le_refl _)
    have hbb : Below w.heap.size w (w.alloc (.cells #[] 65)) := (by (repeat (first | (with_reducible exact Below.refl _ _) | (with_reducible assumption) | (with_reducible refine Below.drew ?_) | (with_reducible refine below_drewN ?_ _) | ((with_reducible refine Below.setCell ?_ ?_ _); rotate_left; focus (first | (simp; done) | omega | (simp; omega))) | ((with_reducible refine Below.alloc ?_ ?_ _); rotate_left; focus (first | exact Nat.le_refl _ | omega | (simp; done) | (simp; omega))))))
    have hh := h.below hbb
    go_enter Try.func90, Try.ntmps90
    go_wp2_with (at_builtin; refine wpList_append_own_at _ rfl _ _ 27 rfl w.heap.size 65 i0 (.agg #[.int .i64 0, .int .i64 0, .int .i64 0, .int .i64 0, .int .i64 0, .int .i64 0]) 6 48 Try.underlying27 hi hz0 hz1 hz2 rfl (by decide) _ _ _ rfl (hown) ad n c (((List.range n).map N).flatMap No.cells) rfl ?c1 ?c2 ?c3 ?c4 ?c5 ?c6 ?_)
    case c1 => exact no_flat_len N n
    case c2 => exact hh.news
    case c3 => exact no_one N n
    case c4 => unfold maxLen; omega
    case c5 => omega
    case c6 => simp
    intro v' w1 hown1 hg1 _ hat
    have hB1 : Below w.heap.size w w1 := hbb.grown hg1 hbb.size (fun q hq => by simp [Value.ownBlock] at hq; omega)
    obtain ⟨B, cc, rfl⟩ := (OwR.of_own hown1).form
    have ow := OwNo.range hown1
    clear hown1 hat hg1
    go_wp2_with fail
    go_ret
    exact ⟨B, cc, by simp, by simpa using ow, hB1⟩

set_option maxHeartbeats 400000 in
theorem iCopyNodes (w : World) (A : Option Addr) (n c : Nat) (N : Nat → No) (h : RdNo w w.heap.size A n N) (hA : A = none → n = 0 ∧ c = 0) (hn : n ≤ 1048576) :
    Calls Try.prog 72 #[.slice A n c] w fun e w' => ∃ (B : Option Addr) (cc : Nat), e = .returned (.slice B n cc) ∧ OwR w' w.heap.size 65 6 (.slice B n cc) n (noAt N) ∧ Below w.heap.size w w' := by
  go_enter Try.func72, Try.ntmps72
  go_wp2_with fail
  refine (iClone w A n c N h hA hn).mono ?_
  rintro e w1 ⟨B, cc, rfl, ow, hb1⟩
  go_wp2_with fail
  go_ret
  exact ⟨B, cc, rfl, ow, hb1⟩

set_option maxRecDepth 8000 in
set_option maxHeartbeats 6400000 in
theorem iCopyBook (w : World) (A : Option Addr) (m c : Nat) (R : Nat → Rn) (h : RdRu w w.heap.size A m R) (hm : m ≤ 1048576) (hn : ∀ i, i < m → (R i).n ≤ 1048576) (hA : ∀ i, i < m → (R i).A = none → (R i).n = 0 ∧ (R i).c = 0) :
    Calls Try.prog 71 #[.agg #[.slice A m c]] w fun e w' => ∃ (xs : List Rn) (B : Option Addr) (cc : Nat), e = .returned (.agg #[.slice B xs.length cc]) ∧ xs.length = m ∧ sameL R xs ∧ OwB w' w.heap.size (.slice B xs.length cc) xs ∧ Below w.heap.size w w' := by
  have hmx := h.1
  obtain ⟨i0, hi, hz0, hz1, hz2⟩ := info_parts ru_inf
  have hbb : Below w.heap.size w (((w.alloc (.cells #[.slice A m c] 37)).alloc (.cells #[.slice none 0 0] 37)).alloc (.cells #[.slice none 0 0] 37)) := (by (repeat (first | (with_reducible exact Below.refl _ _) | (with_reducible assumption) | (with_reducible refine Below.drew ?_) | (with_reducible refine below_drewN ?_ _) | ((with_reducible refine Below.setCell ?_ ?_ _); rotate_left; focus (first | (simp; done) | omega | (simp; omega))) | ((with_reducible refine Below.alloc ?_ ?_ _); rotate_left; focus (first | exact Nat.le_refl _ | omega | (simp; done) | (simp; omega))))))
  have HN := Lib.hid hn
  have HA := Lib.hid hA
  clear hn hA
  have pB0 : Whole (((w.alloc (.cells #[.slice A m c] 37)).alloc (.cells #[.slice none 0 0] 37)).alloc (.cells #[.slice none 0 0] 37)) w.heap.size 37 #[.slice A m c] := ((Whole.new w _ _).alloc _).alloc _
  have pR0 : Whole (((w.alloc (.cells #[.slice A m c] 37)).alloc (.cells #[.slice none 0 0] 37)).alloc (.cells #[.slice none 0 0] 37)) (w.heap.size + 1) 37 #[.slice none 0 0] := by have k := (Whole.new (w.alloc (.cells #[.slice A m c] 37)) 37 #[.slice none 0 0]).alloc (.cells #[.slice none 0 0] 37); simpa using k
  have pO0 : Whole (((w.alloc (.cells #[.slice A m c] 37)).alloc (.cells #[.slice none 0 0] 37)).alloc (.cells #[.slice none 0 0] 37)) (w.heap.size + 1 + 1) 37 #[.slice none 0 0] := by have k := Whole.new ((w.alloc (.cells #[.slice A m c] 37)).alloc (.cells #[.slice none 0 0] 37)) 37 #[.slice none 0 0]; simpa using k
  go_enter Try.func71, Try.ntmps71
  go_wp2_with fail
  go_loopw [10] (fun i wr => ∃ (xs : List Rn) (B : Option Addr) (cc : Nat), xs.length ≤ m ∧ i = .int .i64 (xs.length : Int) ∧ Whole wr w.heap.size 37 #[.slice A m c] ∧ Whole wr (w.heap.size + 1) 37 #[.slice none 0 0] ∧ Whole wr (w.heap.size + 1 + 1) 37 #[.slice B xs.length cc] ∧ OwB wr w.heap.size (.slice B xs.length cc) xs ∧ Hid (sameL R xs) ∧ Below w.heap.size w wr) (fun i _ => m - (intOf i).toNat)
  case atStart => exact ⟨[], none, 0, Nat.zero_le _, rfl, pB0, pR0, pO0, OwB.nil _ _, Lib.hid (fun i hi => absurd hi (Nat.not_lt_zero i)), hbb⟩
  case round =>
    clear pB0 pR0 pO0 hbb
    obtain ⟨xs, B, cc, hk, rfl, pB, pR, pO, own, hsm, hbr⟩ := hrel
    have hs1 := hbr.size
    by_cases hlt : xs.length < m
    · obtain ⟨⟨b, off, rfl, hbB, h0, h1, h2, h3, h4, h5, h6⟩, hno⟩ := (h.below hbr).2 xs.length hlt
      have hlt2 : (xs.length : Int) < m := by omega
      have hnk := HN.out xs.length hlt
      have hAk := HA.out xs.length hlt
      replace hno := hno.more hs1
      have hnb : ¬ b = wr.heap.size := by omega
      have hnd : ∀ i, i < xs.length → ∀ q, (nsl (xs.getD i Rn.zero)).ownBlock = some q → q < wr.heap.size := fun i hi q hq => ((own.2.1 i hi).lt q hq).2
      have HND := Lib.hid hnd
      have HVB := Lib.hid (show ∀ q, (Value.slice B xs.length cc).ownBlock = some q → q < wr.heap.size from fun q hq => (own.1.lt q hq).2)
      clear hnd
      obtain ⟨wq, hwq⟩ : ∃ v, v = wr.alloc (.cells #[.int .i64 (R xs.length).s.nm, .int .i64 (R xs.length).s.fr, .int .i64 (R xs.length).s.to, .int .i64 (R xs.length).s.jo, .int .i64 (R xs.length).s.ra, .int .i64 (R xs.length).s.mo, .slice (R xs.length).A (R xs.length).n (R xs.length).c] 29) := ⟨_, rfl⟩
      obtain ⟨bq, hbq⟩ : ∃ v, v = wr.heap.size := ⟨_, rfl⟩
      have hbx : Below wr.heap.size wr wq := by rw [hwq]; exact (Below.refl _ _).alloc (Nat.le_refl _) _
      have pQ : Whole wq bq 29 #[.int .i64 (R xs.length).s.nm, .int .i64 (R xs.length).s.fr, .int .i64 (R xs.length).s.to, .int .i64 (R xs.length).s.jo, .int .i64 (R xs.length).s.ra, .int .i64 (R xs.length).s.mo, .slice (R xs.length).A (R xs.length).n (R xs.length).c] := by rw [hwq, hbq]; exact Whole.new _ _ _
      replace own := own.all hbx
      replace pB := pB.below hbx pB.lt
      replace pR := pR.below hbx pR.lt
      replace hno := (hno.below hbx).more hbx.size
      have hzO := pO.lt
      replace pO := pO.below hbx pO.lt
      replace hbr := hbr.trans (hbx.mono hs1)
      have hsq := hbx.size
      have hbq2 := Lib.hid hbq
      rw [← hbq] at HND HVB hzO hsq
      have hwb : w.heap.size ≤ bq := by omega
      skip
      go_upto_region 5 with fail
      rw [← hwq]
      rw [← hbq]
      clear hwq hbq hbx h0 h1 h2 h3 h4 h5 h6
      have q0 : wq.cell? ⟨bq, 0, none⟩ = some (.int .i64 (R xs.length).s.nm) := pQ.cell 0
      have q1 : wq.cell? ⟨bq, 1, none⟩ = some (.int .i64 (R xs.length).s.fr) := pQ.cell 1
      have q2 : wq.cell? ⟨bq, 2, none⟩ = some (.int .i64 (R xs.length).s.to) := pQ.cell 2
      have q3 : wq.cell? ⟨bq, 3, none⟩ = some (.int .i64 (R xs.length).s.jo) := pQ.cell 3
      have q4 : wq.cell? ⟨bq, 4, none⟩ = some (.int .i64 (R xs.length).s.ra) := pQ.cell 4
      have q5 : wq.cell? ⟨bq, 5, none⟩ = some (.int .i64 (R xs.length).s.mo) := pQ.cell 5
      have q6 : wq.cell? ⟨bq, 6, none⟩ = some (.slice (R xs.length).A (R xs.length).n (R xs.length).c) := pQ.cell 6
      have zQ := pQ.lt
      go_wp2_with fail
      refine (iCopyNodes wq _ _ _ _ hno hAk hnk).mono ?_
      rintro e w2 ⟨B2, c2, rfl, own2, hb2⟩
      clear q0 q1 q2 q3 q4 q5 q6
      have hs2 := hb2.size
      replace own := own.all hb2
      replace pB := pB.below hb2 pB.lt
      replace pR := pR.below hb2 pR.lt
      replace pO := pO.below hb2 pO.lt
      have pQ2 := pQ.below hb2 pQ.lt
      replace hbr := hbr.trans (hb2.mono hbr.size)
      clear hb2 pQ hno
      obtain ⟨w3, hw3⟩ : ∃ v, v = w2.setCell ⟨bq, 6, none⟩ (.slice B2 (R xs.length).n c2) := ⟨_, rfl⟩
      have pQ3 : Whole w3 bq 29 #[.int .i64 (R xs.length).s.nm, .int .i64 (R xs.length).s.fr, .int .i64 (R xs.length).s.to, .int .i64 (R xs.length).s.jo, .int .i64 (R xs.length).s.ra, .int .i64 (R xs.length).s.mo, .slice B2 (R xs.length).n c2] := by rw [hw3]; simpa using pQ2.put 6 (.slice B2 (R xs.length).n c2)
      have ownX : OwB w3 w.heap.size (.slice B xs.length cc) xs := by rw [hw3]; exact own.fresh HVB.out HND.out 6 _
      have own3 : OwR w3 bq 65 6 (.slice B2 (R xs.length).n c2) (R xs.length).n (noAt (R xs.length).N) := by rw [hw3]; exact (own2.put' (fun k hk e => by have := (own2.lt k hk).1; omega) _).less (by omega)
      have pB3 : Whole w3 w.heap.size 37 #[.slice (some ⟨b, off, none⟩) m c] := by rw [hw3]; exact pB.far (p := ⟨bq, 6, none⟩) (by show ¬ w.heap.size = bq; omega) _
      have pR3 : Whole w3 (w.heap.size + 1) 37 #[.slice none 0 0] := by rw [hw3]; exact pR.far (p := ⟨bq, 6, none⟩) (by show ¬ w.heap.size + 1 = bq; omega) _
      have pO3 : Whole w3 (w.heap.size + 1 + 1) 37 #[.slice B xs.length cc] := by rw [hw3]; exact pO.far (p := ⟨bq, 6, none⟩) (by show ¬ w.heap.size + 1 + 1 = bq; omega) _
      have hB3 : Below w.heap.size w w3 := by rw [hw3]; exact hbr.setCell (by show w.heap.size ≤ bq; omega) _
      have f6 := pQ2.free 6
      have z2 := pQ2.lt
      have k6 : w2.cell? ⟨bq, 6, none⟩ = some (.slice (R xs.length).A (R xs.length).n (R xs.length).c) := pQ2.cell 6
      go_upto_region 6 with fail
      rw [← hw3]
      clear hw3 own own2 pB pR pO pQ2 hbr f6 z2 k6
      have z3 := pQ3.lt
      have hs3 := hB3.size
      have q0 : w3.cell? ⟨bq, 0, none⟩ = some (.int .i64 (R xs.length).s.nm) := pQ3.cell 0
      have q1 : w3.cell? ⟨bq, 1, none⟩ = some (.int .i64 (R xs.length).s.fr) := pQ3.cell 1
      have q2 : w3.cell? ⟨bq, 2, none⟩ = some (.int .i64 (R xs.length).s.to) := pQ3.cell 2
      have q3 : w3.cell? ⟨bq, 3, none⟩ = some (.int .i64 (R xs.length).s.jo) := pQ3.cell 3
      have q4 : w3.cell? ⟨bq, 4, none⟩ = some (.int .i64 (R xs.length).s.ra) := pQ3.cell 4
      have q5 : w3.cell? ⟨bq, 5, none⟩ = some (.int .i64 (R xs.length).s.mo) := pQ3.cell 5
      have q6 : w3.cell? ⟨bq, 6, none⟩ = some (.slice B2 (R xs.length).n c2) := pQ3.cell 6
      have cO : w3.cell? ⟨w.heap.size + 1 + 1, 0, none⟩ = some (.slice B xs.length cc) := pO3.cell 0
      have zO := pO3.lt
      have n3 : ¬ w.heap.size + 1 + 1 = w3.heap.size := by omega
      have n4 : ¬ bq = w3.heap.size := by omega
      go_wp2_with (at_builtin; refine wpList_append_own_at _ rfl _ _ 35 rfl w.heap.size 29 i0 _ 7 72 Try.underlying35 hi hz0 hz1 hz2 rfl (by omega) _ _ _ rfl (ownX.1.alloc (.cells #[.int .i64 (R xs.length).s.nm, .int .i64 (R xs.length).s.fr, .int .i64 (R xs.length).s.to, .int .i64 (R xs.length).s.jo, .int .i64 (R xs.length).s.ra, .int .i64 (R xs.length).s.mo, .slice B2 (R xs.length).n c2] 29)) ⟨w3.heap.size, 0, none⟩ 1 1 [.int .i64 (R xs.length).s.nm, .int .i64 (R xs.length).s.fr, .int .i64 (R xs.length).s.to, .int .i64 (R xs.length).s.jo, .int .i64 (R xs.length).s.ra, .int .i64 (R xs.length).s.mo, .slice B2 (R xs.length).n c2] rfl rfl (ru_cells_new w3 [.int .i64 (R xs.length).s.nm, .int .i64 (R xs.length).s.fr, .int .i64 (R xs.length).s.to, .int .i64 (R xs.length).s.jo, .int .i64 (R xs.length).s.ra, .int .i64 (R xs.length).s.mo, .slice B2 (R xs.length).n c2] 29) ?c2 ?c3 ?c4 ?c5 ?_)
      case c2 => simp [Value.oneCell']
      case c3 => unfold maxLen; omega
      case c4 => omega
      case c5 => simp; omega
      intro v' w4 hown4 hg4 _ hat4
      obtain ⟨B4, c4, rfl⟩ := (OwR.of_own hown4).form
      have hbx : Below w3.heap.size w3 (w3.alloc (.cells #[.int .i64 (R xs.length).s.nm, .int .i64 (R xs.length).s.fr, .int .i64 (R xs.length).s.to, .int .i64 (R xs.length).s.jo, .int .i64 (R xs.length).s.ra, .int .i64 (R xs.length).s.mo, .slice B2 (R xs.length).n c2] 29)) := (Below.refl _ _).alloc (Nat.le_refl _) _
      have ownY := (ownX.all hbx).snoc (r := ⟨(R xs.length).s, B2, (R xs.length).n, c2, (R xs.length).N⟩) (b := bq) HND.out (own3.all hbx) hwb hg4 hown4
      have far := fun {g : Nat} {t : TypeId} {cs : Array Value} (hw : Whole w3 g t cs) (hne : 29 ≠ t) => (hw.alloc (.cells #[.int .i64 (R xs.length).s.nm, .int .i64 (R xs.length).s.fr, .int .i64 (R xs.length).s.to, .int .i64 (R xs.length).s.jo, .int .i64 (R xs.length).s.ra, .int .i64 (R xs.length).s.mo, .slice B2 (R xs.length).n c2] 29)).grown hg4 (fun e => own_apart (ownX.1.alloc (.cells #[.int .i64 (R xs.length).s.nm, .int .i64 (R xs.length).s.fr, .int .i64 (R xs.length).s.to, .int .i64 (R xs.length).s.jo, .int .i64 (R xs.length).s.ra, .int .i64 (R xs.length).s.mo, .slice B2 (R xs.length).n c2] 29)) (hw.alloc (.cells #[.int .i64 (R xs.length).s.nm, .int .i64 (R xs.length).s.fr, .int .i64 (R xs.length).s.to, .int .i64 (R xs.length).s.jo, .int .i64 (R xs.length).s.ra, .int .i64 (R xs.length).s.mo, .slice B2 (R xs.length).n c2] 29)) hne e.symm)
      have pB4 := far pB3 (by decide)
      have pR4 := far pR3 (by decide)
      have pO4 := far pO3 (by decide)
      clear far
      have hB4 : Below w.heap.size w w4 := (hB3.alloc (by omega) _).grown hg4 (by simp; omega) (ev_base ownX.1)
      have cO4 : w4.cell? ⟨w.heap.size + 1 + 1, 0, none⟩ = some (.slice B xs.length cc) := pO4.cell 0
      have fO4 := pO4.free 0
      have zO4 := pO4.lt
      clear q0 q1 q2 q3 q4 q5 q6 cO zO pB3 pR3 pO3 pQ3 ownX own3 hown4 hg4 hat4 hbx hB3
      go_wp2_with fail
      go_roundw
      case rel => exact ⟨xs ++ [⟨(R xs.length).s, B2, (R xs.length).n, c2, (R xs.length).N⟩], B4, c4, by simp; omega, by simp, pB4.far (p := ⟨w.heap.size + 1 + 1, 0, none⟩) (by show ¬ w.heap.size = w.heap.size + 1 + 1; omega) _, pR4.far (p := ⟨w.heap.size + 1 + 1, 0, none⟩) (by show ¬ w.heap.size + 1 = w.heap.size + 1 + 1; omega) _, by simpa using pO4.put 0 (.slice B4 (xs.length + 1) c4), by simpa using ownY.put pO4 (by decide) (by decide) 0 (.slice B4 (xs.length + 1) c4), Lib.hid (hsm.out.snoc ⟨rfl, rfl, rfl⟩), hB4.setCell (by show w.heap.size ≤ w.heap.size + 1 + 1; omega) _⟩
      case measure => simp [intOf]; omega
    · have hm_ : m = xs.length := by omega
      have cO : wr.cell? ⟨w.heap.size + 1 + 1, 0, none⟩ = some (.slice B xs.length cc) := pO.cell 0
      have zO := pO.lt
      have cR : wr.cell? ⟨w.heap.size + 1, 0, none⟩ = some (.slice none 0 0) := pR.cell 0
      have fR := pR.free 0
      have zR := pR.lt
      have HM := Lib.hid hm_
      clear hm_
      have hge : ¬ (xs.length : Int) < m := by omega
      go_wp2_with fail
      refine bodyPost_ret (v := .agg #[.slice B xs.length cc]) (by simp [results, Try.results71, go_sem, cR]) rfl ⟨xs, B, cc, rfl, HM.out.symm, hsm.out, own.put pR (by decide) (by decide) 0 _, hbr.setCell (by simp) _⟩

theorem OwB.under {w : World} {base : Nat} {v : Value} {xs : List Rn} (h : OwB w base v xs) {b : Nat} (hb : b < base) (o : Nat) (u : Value) : OwB (w.setCell ⟨b, o, none⟩ u) base v xs :=
  ⟨h.1.kept (row := some b) (grown_setCell (grown_refl _ _) rfl u) (.inr fun e => by have := (h.1.lt b e).1; omega), h.2.kept (row := some b) (grown_setCell (grown_refl _ _) rfl u) fun i hi q hq e => by injection e with e; have := ((h.2.1 i hi).lt q hq).1; omega⟩

set_option maxRecDepth 8000 in
set_option maxHeartbeats 6400000 in
theorem iAddRule (w : World) (A : Option Addr) (m c : Nat) (R : Nat → Rn) (r : Rn) (h : RdRu w w.heap.size A m R) (h' : RdNo w w.heap.size r.A r.n r.N) (hm : m ≤ 1048576) (hmc : m ≤ c) (hcx : c ≤ 9223372036854775807) (hn : ∀ i, i < m → (R i).n ≤ 1048576) (hn' : r.n ≤ 1048576) (hA : ∀ i, i < m → (R i).A = none → (R i).n = 0 ∧ (R i).c = 0) (hA' : r.A = none → r.n = 0 ∧ r.c = 0) :
    Calls Try.prog 39 #[.agg #[.slice A m c], r.val] w (Added w R m r) := by
  have hmx := h.1
  obtain ⟨i0, hi, hz0, hz1, hz2⟩ := info_parts ru_inf
  have hbb : Below w.heap.size w (((w.alloc (.cells #[.slice A m c] 37)).alloc (.cells #[.int .i64 r.s.nm, .int .i64 r.s.fr, .int .i64 r.s.to, .int .i64 r.s.jo, .int .i64 r.s.ra, .int .i64 r.s.mo, .slice r.A r.n r.c] 29)).alloc (.cells #[.slice none 0 0] 37)) := (by (repeat (first | (with_reducible exact Below.refl _ _) | (with_reducible assumption) | (with_reducible refine Below.drew ?_) | (with_reducible refine below_drewN ?_ _) | ((with_reducible refine Below.setCell ?_ ?_ _); rotate_left; focus (first | (simp; done) | omega | (simp; omega))) | ((with_reducible refine Below.alloc ?_ ?_ _); rotate_left; focus (first | exact Nat.le_refl _ | omega | (simp; done) | (simp; omega))))))
  have pB0 : Whole (((w.alloc (.cells #[.slice A m c] 37)).alloc (.cells #[.int .i64 r.s.nm, .int .i64 r.s.fr, .int .i64 r.s.to, .int .i64 r.s.jo, .int .i64 r.s.ra, .int .i64 r.s.mo, .slice r.A r.n r.c] 29)).alloc (.cells #[.slice none 0 0] 37)) w.heap.size 37 #[.slice A m c] := ((Whole.new w _ _).alloc _).alloc _
  have pQ0 : Whole (((w.alloc (.cells #[.slice A m c] 37)).alloc (.cells #[.int .i64 r.s.nm, .int .i64 r.s.fr, .int .i64 r.s.to, .int .i64 r.s.jo, .int .i64 r.s.ra, .int .i64 r.s.mo, .slice r.A r.n r.c] 29)).alloc (.cells #[.slice none 0 0] 37)) (w.heap.size + 1) 29 #[.int .i64 r.s.nm, .int .i64 r.s.fr, .int .i64 r.s.to, .int .i64 r.s.jo, .int .i64 r.s.ra, .int .i64 r.s.mo, .slice r.A r.n r.c] := by have k := (Whole.new (w.alloc (.cells #[.slice A m c] 37)) 29 #[.int .i64 r.s.nm, .int .i64 r.s.fr, .int .i64 r.s.to, .int .i64 r.s.jo, .int .i64 r.s.ra, .int .i64 r.s.mo, .slice r.A r.n r.c]).alloc (.cells #[.slice none 0 0] 37); simpa using k
  have pR0 : Whole (((w.alloc (.cells #[.slice A m c] 37)).alloc (.cells #[.int .i64 r.s.nm, .int .i64 r.s.fr, .int .i64 r.s.to, .int .i64 r.s.jo, .int .i64 r.s.ra, .int .i64 r.s.mo, .slice r.A r.n r.c] 29)).alloc (.cells #[.slice none 0 0] 37)) (w.heap.size + 1 + 1) 37 #[.slice none 0 0] := by have k := Whole.new ((w.alloc (.cells #[.slice A m c] 37)).alloc (.cells #[.int .i64 r.s.nm, .int .i64 r.s.fr, .int .i64 r.s.to, .int .i64 r.s.jo, .int .i64 r.s.ra, .int .i64 r.s.mo, .slice r.A r.n r.c] 29)) 37 #[.slice none 0 0]; simpa using k
  have CP := fun (v : World) (hv : RdRu v v.heap.size A m R) => iCopyBook v A m c R hv hm hn hA
  have BO := fun (v : World) (hv : RdRu v v.heap.size A m R) => iBookOk v A m c R hv hmc hcx (fun i hi => Nat.le_trans (hn i hi) (by omega))
  have HN := Lib.hid hn
  clear hn hA
  go_enter Try.func39, Try.ntmps39
  go_wp2_with fail
  refine (CP _ ((h.below hbb).more hbb.size)).mono ?_
  rintro e w1 ⟨xs, B, cc, rfl, hl, hsm, own, hb1⟩
  subst hl
  have hs1 := hb1.size
  simp only [World.size_alloc] at hs1
  have pB1 := pB0.below hb1 pB0.lt
  have pQ1 := pQ0.below hb1 pQ0.lt
  have pR1 := pR0.below hb1 pR0.lt
  have hB1 := hbb.trans (hb1.mono hbb.size)
  have own1 : OwB w1 (w.heap.size + 1 + 1 + 1) (.slice B xs.length cc) xs := by have k := own; simp only [World.size_alloc] at k; exact k
  clear pB0 pQ0 pR0 hbb hb1 own
  have pO := Whole.new w1 37 #[.slice B xs.length cc]
  have hbx : Below w1.heap.size w1 (w1.alloc (.cells #[.slice B xs.length cc] 37)) := (Below.refl _ _).alloc (Nat.le_refl _) _
  have ownU := own1.all hbx
  have pB := pB1.below hbx pB1.lt
  have pQ := pQ1.below hbx pQ1.lt
  have pR := pR1.below hbx pR1.lt
  have hbr := hB1.trans (hbx.mono hB1.size)
  have hsx := hbx.size
  clear pB1 pQ1 pR1 hB1 own1 hbx
  obtain ⟨wr, hwr⟩ : ∃ v, v = w1.alloc (.cells #[.slice B xs.length cc] 37) := ⟨_, rfl⟩
  obtain ⟨bo, hbo⟩ : ∃ b, b = w1.heap.size := ⟨_, rfl⟩
  rw [← hwr] at pO ownU pB pQ pR hbr hsx
  rw [← hbo] at pO
  have hbo3 : w.heap.size + 1 + 1 < bo := by omega
  go_upto_region 2 with fail
  rw [← hwr]
  rw [← hbo]
  clear hwr hbo
  have hno : RdNo wr wr.heap.size r.A r.n r.N := (h'.below hbr).more hbr.size
  have hnd : ∀ i, i < xs.length → ∀ q, (nsl (xs.getD i Rn.zero)).ownBlock = some q → q < wr.heap.size := fun i hi q hq => ((ownU.2.1 i hi).lt q hq).2
  have HND := Lib.hid hnd
  clear hnd
  have q0 : wr.cell? ⟨w.heap.size + 1, 0, none⟩ = some (.int .i64 r.s.nm) := pQ.cell 0
  have q1 : wr.cell? ⟨w.heap.size + 1, 1, none⟩ = some (.int .i64 r.s.fr) := pQ.cell 1
  have q2 : wr.cell? ⟨w.heap.size + 1, 2, none⟩ = some (.int .i64 r.s.to) := pQ.cell 2
  have q3 : wr.cell? ⟨w.heap.size + 1, 3, none⟩ = some (.int .i64 r.s.jo) := pQ.cell 3
  have q4 : wr.cell? ⟨w.heap.size + 1, 4, none⟩ = some (.int .i64 r.s.ra) := pQ.cell 4
  have q5 : wr.cell? ⟨w.heap.size + 1, 5, none⟩ = some (.int .i64 r.s.mo) := pQ.cell 5
  have q6 : wr.cell? ⟨w.heap.size + 1, 6, none⟩ = some (.slice r.A r.n r.c) := pQ.cell 6
  have zQ := pQ.lt
  go_wp2_with fail
  refine (iCopyNodes wr _ _ _ _ hno hA' hn').mono ?_
  rintro e w2 ⟨B2, c2, rfl, own2, hb2⟩
  clear q0 q1 q2 q3 q4 q5 q6
  have hs2 := hb2.size
  have hsr := hbr.size
  have ownV := ownU.all hb2
  have pB2 := pB.below hb2 pB.lt
  have pR2 := pR.below hb2 pR.lt
  have pO2 := pO.below hb2 pO.lt
  have pQ2 := pQ.below hb2 pQ.lt
  have hB2 := hbr.trans (hb2.mono hbr.size)
  have hbol := pO.lt
  clear hb2 pQ pB pR pO ownU hbr hno zQ
  obtain ⟨w3, hw3⟩ : ∃ v, v = w2.setCell ⟨w.heap.size + 1, 6, none⟩ (.slice B2 r.n c2) := ⟨_, rfl⟩
  have pQ3 : Whole w3 (w.heap.size + 1) 29 #[.int .i64 r.s.nm, .int .i64 r.s.fr, .int .i64 r.s.to, .int .i64 r.s.jo, .int .i64 r.s.ra, .int .i64 r.s.mo, .slice B2 r.n c2] := by rw [hw3]; simpa using pQ2.put 6 (.slice B2 r.n c2)
  have ownX : OwB w3 (w.heap.size + 1 + 1 + 1) (.slice B xs.length cc) xs := by rw [hw3]; exact ownV.under (by omega) 6 _
  have own3 : OwR w3 wr.heap.size 65 6 (.slice B2 r.n c2) r.n (noAt r.N) := by rw [hw3]; exact own2.put' (fun k hk e => by have := (own2.lt k hk).1; omega) _
  have pB3 : Whole w3 w.heap.size 37 #[.slice A xs.length c] := by rw [hw3]; exact pB2.far (p := ⟨w.heap.size + 1, 6, none⟩) (by show ¬ w.heap.size = w.heap.size + 1; omega) _
  have pR3 : Whole w3 (w.heap.size + 1 + 1) 37 #[.slice none 0 0] := by rw [hw3]; exact pR2.far (p := ⟨w.heap.size + 1, 6, none⟩) (by show ¬ w.heap.size + 1 + 1 = w.heap.size + 1; omega) _
  have pO3 : Whole w3 bo 37 #[.slice B xs.length cc] := by rw [hw3]; exact pO2.far (p := ⟨w.heap.size + 1, 6, none⟩) (by show ¬ bo = w.heap.size + 1; omega) _
  have hB3 : Below w.heap.size w w3 := by rw [hw3]; exact hB2.setCell (by show w.heap.size ≤ w.heap.size + 1; omega) _
  have f6 := pQ2.free 6
  have z2 := pQ2.lt
  have k6 : w2.cell? ⟨w.heap.size + 1, 6, none⟩ = some (.slice r.A r.n r.c) := pQ2.cell 6
  have hs3 : w2.heap.size ≤ w3.heap.size := by rw [hw3]; simp [World.setCell]
  go_upto_region 3 with fail
  rw [← hw3]
  clear hw3 ownV own2 pB2 pR2 pO2 pQ2 hB2 f6 z2 k6
  have z3 := pQ3.lt
  have hsz3 := hB3.size
  have q0 : w3.cell? ⟨w.heap.size + 1, 0, none⟩ = some (.int .i64 r.s.nm) := pQ3.cell 0
  have q1 : w3.cell? ⟨w.heap.size + 1, 1, none⟩ = some (.int .i64 r.s.fr) := pQ3.cell 1
  have q2 : w3.cell? ⟨w.heap.size + 1, 2, none⟩ = some (.int .i64 r.s.to) := pQ3.cell 2
  have q3 : w3.cell? ⟨w.heap.size + 1, 3, none⟩ = some (.int .i64 r.s.jo) := pQ3.cell 3
  have q4 : w3.cell? ⟨w.heap.size + 1, 4, none⟩ = some (.int .i64 r.s.ra) := pQ3.cell 4
  have q5 : w3.cell? ⟨w.heap.size + 1, 5, none⟩ = some (.int .i64 r.s.mo) := pQ3.cell 5
  have q6 : w3.cell? ⟨w.heap.size + 1, 6, none⟩ = some (.slice B2 r.n c2) := pQ3.cell 6
  have cO : w3.cell? ⟨bo, 0, none⟩ = some (.slice B xs.length cc) := pO3.cell 0
  have zO := pO3.lt
  have n3 : ¬ bo = w3.heap.size := by omega
  have n4 : ¬ w.heap.size + 1 = w3.heap.size := by omega
  go_cut [6] (fun s6 wx => s6 = .pointer (some ⟨bo, 0, none⟩) ∧ ∃ (ys : List Rn) (D : Option Addr) (cd : Nat), ys.length = xs.length + 1 ∧ sameL (addR R xs.length r) ys ∧ OwB wx w.heap.size (.slice D ys.length cd) ys ∧ Whole wx bo 37 #[.slice D ys.length cd] ∧ Whole wx w.heap.size 37 #[.slice A xs.length c] ∧ Whole wx (w.heap.size + 1 + 1) 37 #[.slice none 0 0] ∧ Below w.heap.size w wx)
  case first =>
    go_wp2_with (at_builtin; refine wpList_append_own_at _ rfl _ _ 35 rfl (w.heap.size + 1 + 1 + 1) 29 i0 _ 7 72 Try.underlying35 hi hz0 hz1 hz2 rfl (by omega) _ _ _ rfl (ownX.1.alloc (.cells #[.int .i64 r.s.nm, .int .i64 r.s.fr, .int .i64 r.s.to, .int .i64 r.s.jo, .int .i64 r.s.ra, .int .i64 r.s.mo, .slice B2 r.n c2] 29)) ⟨w3.heap.size, 0, none⟩ 1 1 [.int .i64 r.s.nm, .int .i64 r.s.fr, .int .i64 r.s.to, .int .i64 r.s.jo, .int .i64 r.s.ra, .int .i64 r.s.mo, .slice B2 r.n c2] rfl rfl (ru_cells_new w3 [.int .i64 r.s.nm, .int .i64 r.s.fr, .int .i64 r.s.to, .int .i64 r.s.jo, .int .i64 r.s.ra, .int .i64 r.s.mo, .slice B2 r.n c2] 29) ?c2 ?c3 ?c4 ?c5 ?_)
    case c2 => simp [Value.oneCell']
    case c3 => unfold maxLen; omega
    case c4 => omega
    case c5 => simp; omega
    intro v' w4 hown4 hg4 _ hat4
    obtain ⟨B4, c4, rfl⟩ := (OwR.of_own hown4).form
    have hbx : Below w3.heap.size w3 (w3.alloc (.cells #[.int .i64 r.s.nm, .int .i64 r.s.fr, .int .i64 r.s.to, .int .i64 r.s.jo, .int .i64 r.s.ra, .int .i64 r.s.mo, .slice B2 r.n c2] 29)) := (Below.refl _ _).alloc (Nat.le_refl _) _
    have ownY := (ownX.all hbx).snoc (r := ⟨r.s, B2, r.n, c2, r.N⟩) (b := wr.heap.size) HND.out (own3.all hbx) (by omega) hg4 hown4
    have far := fun {g : Nat} {t : TypeId} {cs : Array Value} (hw : Whole w3 g t cs) (hne : 29 ≠ t) => (hw.alloc (.cells #[.int .i64 r.s.nm, .int .i64 r.s.fr, .int .i64 r.s.to, .int .i64 r.s.jo, .int .i64 r.s.ra, .int .i64 r.s.mo, .slice B2 r.n c2] 29)).grown hg4 (fun e => own_apart (ownX.1.alloc (.cells #[.int .i64 r.s.nm, .int .i64 r.s.fr, .int .i64 r.s.to, .int .i64 r.s.jo, .int .i64 r.s.ra, .int .i64 r.s.mo, .slice B2 r.n c2] 29)) (hw.alloc (.cells #[.int .i64 r.s.nm, .int .i64 r.s.fr, .int .i64 r.s.to, .int .i64 r.s.jo, .int .i64 r.s.ra, .int .i64 r.s.mo, .slice B2 r.n c2] 29)) hne e.symm)
    have pB4 := far pB3 (by decide)
    have pR4 := far pR3 (by decide)
    have pO4 := far pO3 (by decide)
    clear far
    have hB4 : Below w.heap.size w w4 := (hB3.alloc (by omega) _).grown hg4 (by simp; omega) (fun q hq => by have := ev_base ownX.1 q hq; omega)
    have cO4 : w4.cell? ⟨bo, 0, none⟩ = some (.slice B xs.length cc) := pO4.cell 0
    have fO4 := pO4.free 0
    have zO4 := pO4.lt
    clear q0 q1 q2 q3 q4 q5 q6 cO zO pB3 pR3 pO3 pQ3 ownX own3 hown4 hg4 hat4 hbx hB3
    go_wp2_with fail
    go_meet
    exact ⟨rfl, xs ++ [⟨r.s, B2, r.n, c2, r.N⟩], B4, c4, by simp, hsm.lift.snoc (by rw [addR_same]; exact ⟨rfl, rfl, rfl⟩), by simpa using (ownY.put pO4 (by decide) (by decide) 0 (.slice B4 (xs.length + 1) c4)).less (by omega), by simpa using pO4.put 0 (.slice B4 (xs.length + 1) c4), pB4.far (p := ⟨bo, 0, none⟩) (by show ¬ w.heap.size = bo; omega) _, pR4.far (p := ⟨bo, 0, none⟩) (by show ¬ w.heap.size + 1 + 1 = bo; omega) _, hB4.setCell (by show w.heap.size ≤ bo; omega) _⟩
  case rest =>
    clear q0 q1 q2 q3 q4 q5 q6 cO zO HND pO3 ownX own3 pB3 pQ3 pR3 hB3 hsx z3 hsz3 hs3 hbol hsr hs2 n3 n4
    obtain ⟨rfl, ys, D, cd, hyl, hys, own, pO, pB, pR, hbr⟩ := hcut
    have HY := Lib.hid hyl
    clear hyl
    have hs1 := hbr.size
    cases t1 : bookB xs.length R
    · simp only [t1] at BO
      have hk0 : addOk R xs.length r = false := by rw [addOk, t1]; rfl
      clear t1
      have cB : wc.cell? ⟨w.heap.size, 0, none⟩ = some (.slice A xs.length c) := pB.cell 0
      have zB := pB.lt
      have cO : wc.cell? ⟨bo, 0, none⟩ = some (.slice D ys.length cd) := pO.cell 0
      have zO := pO.lt
      have cR : wc.cell? ⟨w.heap.size + 1 + 1, 0, none⟩ = some (.slice none 0 0) := pR.cell 0
      have zR := pR.lt
      have fR := pR.free 0
      go_wp2_with fail
      refine (BO _ ((h.below hbr).more hs1)).mono ?_
      rintro e w5 ⟨rfl, hb5⟩
      clear cB zB cO zO cR zR fR
      replace pB := pB.below hb5 pB.lt
      replace pO := pO.below hb5 pO.lt
      replace pR := pR.below hb5 pR.lt
      replace own := own.all hb5
      have hB5 := hbr.trans (hb5.mono hs1)
      have hs5 := hB5.size
      have cB : w5.cell? ⟨w.heap.size, 0, none⟩ = some (.slice A xs.length c) := pB.cell 0
      have zB := pB.lt
      have cO : w5.cell? ⟨bo, 0, none⟩ = some (.slice D ys.length cd) := pO.cell 0
      have zO := pO.lt
      have cR : w5.cell? ⟨w.heap.size + 1 + 1, 0, none⟩ = some (.slice none 0 0) := pR.cell 0
      have zR := pR.lt
      have fR := pR.free 0
      go_wp2_with fail
      refine (CP _ ((h.below hB5).more hB5.size)).mono ?_
      rintro e w8 ⟨zs, E, ce, rfl, hzl, hzs, ownz, hb8⟩
      clear cB zB cO zO cR zR fR
      have pR8 := pR.below hb8 pR.lt
      have hB8 := hB5.trans (hb8.mono hB5.size)
      have cR : w8.cell? ⟨w.heap.size + 1 + 1, 0, none⟩ = some (.slice none 0 0) := pR8.cell 0
      have fR := pR8.free 0
      have zR := pR8.lt
      have HZ := Lib.hid hzl
      have HK := Lib.hid hk0
      clear hzl hk0 CP BO
      go_wp2_with fail
      refine bodyPost_ret (v := .tuple #[.agg #[.slice E zs.length ce], .bool false]) (by simp [results, Try.results39, go_sem, cR]) rfl ⟨zs, E, ce, by rw [HK.out], by rw [addN, HK.out]; exact HZ.out, by have k := hzs.lift (r := r); rw [HZ.out] at k; exact k, (ownz.put pR8 (by decide) (by decide) 0 _).less hB5.size, hB8.setCell (by show w.heap.size ≤ w.heap.size + 1 + 1; omega) _⟩
    · skip
      simp only [t1] at BO
      have BY : ∀ (v : World), RdRu v v.heap.size D ys.length (fun i => ys.getD i Rn.zero) → Calls Try.prog 26 #[.agg #[.slice D ys.length cd]] v fun e w' => e = .returned (.bool (bookB (xs.length + 1) (addR R xs.length r))) ∧ Below v.heap.size v w' := fun v hv => by
        have k := iBookOk v D ys.length cd _ hv own.cap.1 (by have := own.cap.2; unfold maxLen at this; omega) (fun i hi => by rw [(hys i hi).2.1]; have hyl := HY.out; by_cases e : i = xs.length; (rw [e, addR_same]; omega); (rw [addR_lt R r (by omega)]; exact Nat.le_trans (HN.out i (by omega)) (by omega)))
        have ek : bookB ys.length (fun i => ys.getD i Rn.zero) = bookB (xs.length + 1) (addR R xs.length r) := by rw [bookB_same hys.same, HY.out]
        rw [ek] at k
        exact k
      cases t2 : bookB (xs.length + 1) (addR R xs.length r)
      · simp only [t2] at BY
        have hk0 : addOk R xs.length r = false := by rw [addOk, t1, t2]; rfl
        clear t1 t2
        have cB : wc.cell? ⟨w.heap.size, 0, none⟩ = some (.slice A xs.length c) := pB.cell 0
        have zB := pB.lt
        have cO : wc.cell? ⟨bo, 0, none⟩ = some (.slice D ys.length cd) := pO.cell 0
        have zO := pO.lt
        have cR : wc.cell? ⟨w.heap.size + 1 + 1, 0, none⟩ = some (.slice none 0 0) := pR.cell 0
        have zR := pR.lt
        have fR := pR.free 0
        go_wp2_with fail
        refine (BO _ ((h.below hbr).more hs1)).mono ?_
        rintro e w5 ⟨rfl, hb5⟩
        clear cB zB cO zO cR zR fR
        replace pB := pB.below hb5 pB.lt
        replace pO := pO.below hb5 pO.lt
        replace pR := pR.below hb5 pR.lt
        replace own := own.all hb5
        have hB5 := hbr.trans (hb5.mono hs1)
        have hs5 := hB5.size
        have rdy := own.rd
        have cB : w5.cell? ⟨w.heap.size, 0, none⟩ = some (.slice A xs.length c) := pB.cell 0
        have zB := pB.lt
        have cO : w5.cell? ⟨bo, 0, none⟩ = some (.slice D ys.length cd) := pO.cell 0
        have zO := pO.lt
        have cR : w5.cell? ⟨w.heap.size + 1 + 1, 0, none⟩ = some (.slice none 0 0) := pR.cell 0
        have zR := pR.lt
        have fR := pR.free 0
        go_wp2_with fail
        refine (BY _ rdy).mono ?_
        rintro e w6 ⟨rfl, hb6⟩
        clear cB zB cO zO cR zR fR
        replace pB := pB.below hb6 pB.lt
        replace pO := pO.below hb6 pO.lt
        replace pR := pR.below hb6 pR.lt
        replace own := own.all hb6
        have hB6 := hB5.trans (hb6.mono hs5)
        have hs6 := hB6.size
        have cB : w6.cell? ⟨w.heap.size, 0, none⟩ = some (.slice A xs.length c) := pB.cell 0
        have zB := pB.lt
        have cO : w6.cell? ⟨bo, 0, none⟩ = some (.slice D ys.length cd) := pO.cell 0
        have zO := pO.lt
        have cR : w6.cell? ⟨w.heap.size + 1 + 1, 0, none⟩ = some (.slice none 0 0) := pR.cell 0
        have zR := pR.lt
        have fR := pR.free 0
        go_wp2_with fail
        refine (CP _ ((h.below hB6).more hB6.size)).mono ?_
        rintro e w8 ⟨zs, E, ce, rfl, hzl, hzs, ownz, hb8⟩
        clear cB zB cO zO cR zR fR
        have pR8 := pR.below hb8 pR.lt
        have hB8 := hB6.trans (hb8.mono hB6.size)
        have cR : w8.cell? ⟨w.heap.size + 1 + 1, 0, none⟩ = some (.slice none 0 0) := pR8.cell 0
        have fR := pR8.free 0
        have zR := pR8.lt
        have HZ := Lib.hid hzl
        have HK := Lib.hid hk0
        clear hzl hk0 CP BO
        go_wp2_with fail
        refine bodyPost_ret (v := .tuple #[.agg #[.slice E zs.length ce], .bool false]) (by simp [results, Try.results39, go_sem, cR]) rfl ⟨zs, E, ce, by rw [HK.out], by rw [addN, HK.out]; exact HZ.out, by have k := hzs.lift (r := r); rw [HZ.out] at k; exact k, (ownz.put pR8 (by decide) (by decide) 0 _).less hB6.size, hB8.setCell (by show w.heap.size ≤ w.heap.size + 1 + 1; omega) _⟩
      · simp only [t2] at BY
        have hk0 : addOk R xs.length r = true := by rw [addOk, t1, t2]; rfl
        clear t1 t2
        have cB : wc.cell? ⟨w.heap.size, 0, none⟩ = some (.slice A xs.length c) := pB.cell 0
        have zB := pB.lt
        have cO : wc.cell? ⟨bo, 0, none⟩ = some (.slice D ys.length cd) := pO.cell 0
        have zO := pO.lt
        have cR : wc.cell? ⟨w.heap.size + 1 + 1, 0, none⟩ = some (.slice none 0 0) := pR.cell 0
        have zR := pR.lt
        have fR := pR.free 0
        go_wp2_with fail
        refine (BO _ ((h.below hbr).more hs1)).mono ?_
        rintro e w5 ⟨rfl, hb5⟩
        clear cB zB cO zO cR zR fR
        replace pB := pB.below hb5 pB.lt
        replace pO := pO.below hb5 pO.lt
        replace pR := pR.below hb5 pR.lt
        replace own := own.all hb5
        have hB5 := hbr.trans (hb5.mono hs1)
        have hs5 := hB5.size
        have rdy := own.rd
        have cB : w5.cell? ⟨w.heap.size, 0, none⟩ = some (.slice A xs.length c) := pB.cell 0
        have zB := pB.lt
        have cO : w5.cell? ⟨bo, 0, none⟩ = some (.slice D ys.length cd) := pO.cell 0
        have zO := pO.lt
        have cR : w5.cell? ⟨w.heap.size + 1 + 1, 0, none⟩ = some (.slice none 0 0) := pR.cell 0
        have zR := pR.lt
        have fR := pR.free 0
        go_wp2_with fail
        refine (BY _ rdy).mono ?_
        rintro e w6 ⟨rfl, hb6⟩
        clear cB zB cO zO cR zR fR
        replace pB := pB.below hb6 pB.lt
        replace pO := pO.below hb6 pO.lt
        replace pR := pR.below hb6 pR.lt
        replace own := own.all hb6
        have hB6 := hB5.trans (hb6.mono hs5)
        have hs6 := hB6.size
        have cB : w6.cell? ⟨w.heap.size, 0, none⟩ = some (.slice A xs.length c) := pB.cell 0
        have zB := pB.lt
        have cO : w6.cell? ⟨bo, 0, none⟩ = some (.slice D ys.length cd) := pO.cell 0
        have zO := pO.lt
        have cR : w6.cell? ⟨w.heap.size + 1 + 1, 0, none⟩ = some (.slice none 0 0) := pR.cell 0
        have zR := pR.lt
        have fR := pR.free 0
        have HK := Lib.hid hk0
        clear hk0
        go_wp2_with fail
        refine bodyPost_ret (v := .tuple #[.agg #[.slice D ys.length cd], .bool true]) (by simp [results, Try.results39, go_sem, cR]) rfl ⟨ys, D, cd, by rw [HK.out], by rw [addN, HK.out]; exact HY.out, hys, own.put pR (by decide) (by decide) 0 _, hB6.setCell (by show w.heap.size ≤ w.heap.size + 1 + 1; omega) _⟩
end Go.Proofs.Ytjnckhdmaebfdaa
