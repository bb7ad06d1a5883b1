/- ValueAt of the program: the facts are searched from the last one back. Conditions: the facts can be read. -/
import Derived.Test.YtondmakaednpdaaFa
import Derived.RangeFuncNested
import Derived.RangeFuncBound
import Derived.RangeFuncCalls
import Derived.RangeFuncLeaves
import Derived.RangeFuncBox
import Derived.Shelf.Abstract
import Derived.Shelf.RegionOpen
import Derived.WalkKit
import Derived.OwnWalkIn
import Derived.TacticsInMore
import Derived.LoopNIn
import Derived.LoopIn
namespace Go.Proofs.Ytondmakaednpdaa
open Go.RowKit Go.Shelf
attribute [local go_sem] Oper.semAt_some

/-- A fact says the value of a key in a month, as known. -/
def vHit (s : Fa) (key m known : Int) : Bool := s.k == key && (decide (s.f ≤ m) && (decide (m < s.t) && decide (s.n ≤ known)))
/-- The value that the last of the first r facts says. -/
def valFrom (L : Nat → Fa) (key m known : Int) : Nat → Option Int
  | 0 => none
  | r + 1 => if vHit (L r) key m known = true then some (L r).v else valFrom L key m known r
theorem valFrom_none {L : Nat → Fa} {key m known : Int} : ∀ {r : Nat}, (∀ i, i < r → vHit (L i) key m known = false) → valFrom L key m known r = none
  | 0, _ => rfl
  | r + 1, h => by rw [valFrom, if_neg (by rw [h r (by omega)]; simp), valFrom_none fun i hi => h i (by omega)]
theorem valFrom_hit {L : Nat → Fa} {key m known : Int} : ∀ {r j : Nat}, j < r → (∀ i, j < i → i < r → vHit (L i) key m known = false) → vHit (L j) key m known = true → valFrom L key m known r = some (L j).v
  | 0, j, hj, _, _ => by omega
  | r + 1, j, hj, h, hh => by
    by_cases e : j = r
    · subst e; rw [valFrom, if_pos hh]
    · rw [valFrom, if_neg (by rw [h r (by omega) (by omega)]; simp), valFrom_hit (by omega) (fun i h1 h2 => h i h1 (by omega)) hh]
def upto {α : Type} (f : Nat → α) (k : Nat) : List α := (List.range k).map f
theorem upto_succ {α : Type} (f : Nat → α) (k : Nat) : upto f (k + 1) = upto f k ++ [f k] := by simp [upto, List.range_succ]
theorem upto_length {α : Type} (f : Nat → α) (k : Nat) : (upto f k).length = k := by simp [upto]
theorem upto_mem {α : Type} {f : Nat → α} {k i : Nat} (h : i < k) : f i ∈ upto f k := List.mem_map.2 ⟨i, List.mem_range.2 h, rfl⟩
/-- What comes in round k of a walk from the last element back. -/
def backAt (n : Nat) (L : Nat → Fa) (k : Nat) : Nat × Fa := (n - 1 - k, L (n - 1 - k))

set_option maxRecDepth 100000 in
set_option maxHeartbeats 2000000 in
theorem back1_in (F : Fence) (n : Nat) (hF : F.fn 78) (hro : F.round = none) (hn : 1 ≤ n) (l Bs n₀ : Nat) (A : Option Addr) (len cap : Nat) (L : Nat → Fa) (hBn : Bs < n₀) (J Jx : List (Nat × Fa) → World → Prop)
    (hY : ∀ pre x W, J pre W → pre.length < len → YieldAt F (n - 1) Try.prog l #[.int .i64 (x.1 : Int), x.2.val] W fun e W' =>
      (e = .returned (.bool true) ∧ J (pre ++ [x]) W' ∧ Below n₀ W W') ∨ (e = .returned (.bool false) ∧ Jx (pre ++ [x]) W'))
    (W : World) (hBs : W.cell? ⟨Bs, 0, none⟩ = some (.slice A len cap)) (hR : RdFa W n₀ A len L) (h0 : J [] W) :
    CallsIn F n Try.prog 78 #[.func (.yield l) #[] #[], .pointer (some ⟨Bs, 0, none⟩)] W fun e W' => (∃ v, e = .returned v) ∧
      ((∃ ys, ys = upto (backAt len L) len ∧ J ys W') ∨ (∃ pre, (∃ k, k ≤ len ∧ pre = upto (backAt len L) k) ∧ Jx pre W')) := by
  have hlen := hR.1
  have hwz : IntKind.i64.wrap ((len : Int) - 1) = (len : Int) - 1 := IntWalk.i64_in _ ⟨by omega, by omega⟩
  refine callsIn_of_wp Try.func78 rfl hF ?_ hro
  simp only [Try.ntmps78, List.size_toArray, List.length_cons, List.length_nil, Nat.reduceAdd, Nat.reduceSub, Array.replicate_succ, Array.replicate_zero, List.push_toArray, List.append_toArray, List.nil_append, List.cons_append]
  gi_wp2
  gi_loopw [3] (fun i wr => ∃ r : Nat, r ≤ len ∧ i = .int .i64 ((r : Int) - 1) ∧ J (upto (backAt len L) (len - r)) wr ∧ Below n₀ W wr)
    (fun i _ => (intOf i + 1).toNat)
  case atStart => exact ⟨len, Nat.le_refl _, rfl, by rw [Nat.sub_self]; exact h0, Below.refl _ _⟩
  case round =>
    obtain ⟨r, hr, rfl, hJs, hnx⟩ := hrel
    have hcs : wr.cell? ⟨Bs, 0, none⟩ = some (.slice A len cap) := (hnx.cell (p := ⟨Bs, 0, none⟩) hBn).trans hBs
    cases r with
    | zero =>
      gi_wp2
      go_end0
      exact ⟨⟨_, rfl⟩, .inl ⟨_, rfl, hJs⟩⟩
    | succ q =>
      rw [show (((q + 1 : Nat) : Int) - 1) = (q : Int) by omega]
      have hqq : len - 1 - (len - (q + 1)) = q := by omega
      obtain ⟨b, off, rfl, hb, c0, c1, c2, c3, c4⟩ := (hR.below hnx).2 q (by omega)
      have hq1 : (q : Int) < len := by omega
      have hwq : IntKind.i64.wrap ((q : Int) - 1) = (q : Int) - 1 := IntWalk.i64_in _ ⟨by omega, by omega⟩
      obtain ⟨fn, tmps, assign, body, hy, hRr⟩ := hY _ (q, L q) wr hJs (by rw [upto_length]; omega)
      dsimp only at hy
      have hnext : upto (backAt len L) (len - (q + 1)) ++ [(q, L q)] = upto (backAt len L) (len - q) := by
        rw [show len - q = (len - (q + 1)) + 1 by omega, upto_succ, backAt, hqq]
      rw [hnext] at hRr
      gi_wp2
      refine hRr.mono ?_
      rintro e W3 (⟨rfl, hJ3, hk3⟩ | ⟨rfl, hJx3⟩)
      · gi_wp2
        go_roundw
        case rel => exact ⟨q, by omega, rfl, hJ3, hnx.trans hk3⟩
        case measure => simp [intOf] <;> omega
      · gi_wp2
        refine bodyPost_ret (results_none rfl _ _ _) rfl ?_
        exact ⟨⟨_, rfl⟩, .inr ⟨_, ⟨len - q, by omega, rfl⟩, hJx3⟩⟩

set_option maxHeartbeats 1000000 in
theorem back_in (F : Fence) (n : Nat) (hF : F.fn 63) (hro : F.round = none) (A : Option Addr) (len cap : Nat) (w : World) :
    CallsIn F n Try.prog 63 #[.slice A len cap] w fun e w' => e = .returned (.func (.func 78) #[] #[.pointer (some ⟨w.heap.size, 0, none⟩)]) ∧ w' = w.alloc (.cells #[.slice A len cap] 24) := by
  refine callsIn_of_wp Try.func63 rfl hF ?_ hro
  simp only [Try.ntmps63, List.size_toArray, List.length_cons, List.length_nil, Nat.reduceAdd, Nat.reduceSub, Array.replicate_succ, Array.replicate_zero, List.push_toArray, List.append_toArray, List.nil_append, List.cons_append]
  gi_wp2
  go_ret
  exact ⟨rfl, rfl⟩
theorem back_stops (F : Fence) (n : Nat) (hF : F.fn 78) (hro : F.round = none) (hn : 1 ≤ n) (Bs n₀ : Nat) (A : Option Addr) (len cap : Nat) (L : Nat → Fa) (hBn : Bs < n₀) (w : World) (hn₀ : n₀ ≤ w.heap.size)
    (hc : w.cell? ⟨Bs, 0, none⟩ = some (.slice A len cap)) (hR : RdFa w n₀ A len L) :
    SeqStopsK F n Try.prog 78 #[.pointer (some ⟨Bs, 0, none⟩)] (fun x : Nat × Fa => #[.int .i64 (x.1 : Int), x.2.val]) (Below n₀) (fun ys => ys = upto (backAt len L) len) (fun pre => ∃ k, k ≤ len ∧ pre = upto (backAt len L) k) len w := fun l J Jx W hW _ _ hY h0 =>
  back1_in F n hF hro hn l Bs n₀ A len cap L hBn J Jx hY W ((hW.cell (p := ⟨Bs, 0, none⟩) (by show Bs < w.heap.size; omega)).trans hc) (hR.below (hW.mono hn₀)) h0

theorem boxed_keep {A B : World} {row : Option Nat} {b : Nat} {t : TypeId} {v : Value} (h : Boxed A b t v) (hg : A.grownBy B row) (hr : ∀ r, row = some r → ∃ o : Obj, A.heap[r]? = some o ∧ o.isCells = false) : Boxed B b t v :=
  h.kept hg (fun e => by
    obtain ⟨o, ho, hc⟩ := hr b e.symm
    rw [show A.heap[b]? = _ from h] at ho
    injection ho with ho
    subst ho
    cases hc)
theorem no_more {key m known : Int} {pre : List (Nat × Fa)} {x : Nat × Fa} (h : ∀ y ∈ pre, vHit y.2 key m known = false) (hx : vHit x.2 key m known = false) : ∀ y ∈ pre ++ [x], vHit y.2 key m known = false := fun y hy => (List.mem_append.1 hy).elim (h y) (fun e => by simp at e; subst e; exact hx)
theorem whole_keep {A B : World} {row : Option Nat} {b : Nat} {t : TypeId} {cs : Array Value} (h : Whole A b t cs) (hg : A.grownBy B row) (hr : ∀ r, row = some r → ∃ o : Obj, A.heap[r]? = some o ∧ o.isCells = false) : Whole B b t cs :=
  h.grown hg (fun e => by
    obtain ⟨o, ho, hc⟩ := hr b e.symm
    rw [show A.heap[b]? = _ from h] at ho
    injection ho with ho
    subst ho
    cases hc)

set_option maxRecDepth 100000 in
set_option maxHeartbeats 4000000 in
theorem ValueAt_in (F : Fence) (n : Nat) (h1f : F.fn 38) (h2f : F.fn 63) (h3f : F.fn 78) (hro : F.round = none) (hn : 3 ≤ n) (A : Option Addr) (len cap : Nat) (L : Nat → Fa) (key m known : Int) (w : World) (hR : RdFa w w.heap.size A len L) :
    CallsIn F n Try.prog 38 #[.agg #[.slice A len cap], .int .i64 key, .int .i64 m, .int .i64 known] w fun e w' => e = .returned (.tuple #[.int .i64 ((valFrom L key m known len).getD 0), .bool (valFrom L key m known len).isSome]) ∧ Below w.heap.size w w' := by
  have h1 : 1 ≤ n := by omega
  refine callsIn_of_wp_marks Try.func38 rfl h1f ?_ hro
  simp only [Try.ntmps38, List.size_toArray, List.length_cons, List.length_nil, Nat.reduceAdd, Nat.reduceSub, Array.replicate_succ, Array.replicate_zero, List.push_toArray, List.append_toArray, List.nil_append, List.cons_append]
  gi_wp2_with (gi_at_call 63; refine (back_in F (n - 1) h2f hro _ _ _ _).mono ?_; rintro e w' ⟨rfl, rfl⟩)
  obtain ⟨W0, hW0⟩ : ∃ W0, W0 = ((((((w.alloc (.cells #[.slice A len cap] 26)).alloc (.cells #[.int .i64 key] 3)).alloc (.cells #[.int .i64 m] 3)).alloc (.cells #[.int .i64 known] 3)).alloc (.cells #[.int .i64 0] 3)).alloc (.cells #[.bool false] 4)).alloc (.cells #[.slice A len cap] 24) := ⟨_, rfl⟩
  have hsz : W0.heap.size = w.heap.size + 7 := by rw [hW0]; simp
  have hB0 : Below w.heap.size w W0 := by rw [hW0]; (repeat (first | (with_reducible exact Below.refl _ _) | (with_reducible assumption) | (with_reducible refine Below.drew ?_) | (with_reducible refine below_drewN ?_ _) | ((with_reducible refine Below.setCell ?_ ?_ _); rotate_left; focus (first | (simp; done) | omega | (simp; omega))) | ((with_reducible refine Below.alloc ?_ ?_ _); rotate_left; focus (first | exact Nat.le_refl _ | omega | (simp; done) | (simp; omega)))))
  have b1 : Boxed W0 (w.heap.size + 1) 3 (.int .i64 key) := by rw [hW0]; have := (((((Boxed.new (w.alloc (.cells #[.slice A len cap] 26)) 3 (.int .i64 key)).alloc (.cells #[.int .i64 m] 3)).alloc (.cells #[.int .i64 known] 3)).alloc (.cells #[.int .i64 0] 3)).alloc (.cells #[.bool false] 4)).alloc (.cells #[.slice A len cap] 24); simpa using this
  have b2 : Boxed W0 (w.heap.size + 1 + 1) 3 (.int .i64 m) := by rw [hW0]; have := ((((Boxed.new ((w.alloc (.cells #[.slice A len cap] 26)).alloc (.cells #[.int .i64 key] 3)) 3 (.int .i64 m)).alloc (.cells #[.int .i64 known] 3)).alloc (.cells #[.int .i64 0] 3)).alloc (.cells #[.bool false] 4)).alloc (.cells #[.slice A len cap] 24); simpa using this
  have b3 : Boxed W0 (w.heap.size + 1 + 1 + 1) 3 (.int .i64 known) := by rw [hW0]; have := (((Boxed.new (((w.alloc (.cells #[.slice A len cap] 26)).alloc (.cells #[.int .i64 key] 3)).alloc (.cells #[.int .i64 m] 3)) 3 (.int .i64 known)).alloc (.cells #[.int .i64 0] 3)).alloc (.cells #[.bool false] 4)).alloc (.cells #[.slice A len cap] 24); simpa using this
  have b4 : Boxed W0 (w.heap.size + 1 + 1 + 1 + 1) 3 (.int .i64 0) := by rw [hW0]; have := ((Boxed.new ((((w.alloc (.cells #[.slice A len cap] 26)).alloc (.cells #[.int .i64 key] 3)).alloc (.cells #[.int .i64 m] 3)).alloc (.cells #[.int .i64 known] 3)) 3 (.int .i64 0)).alloc (.cells #[.bool false] 4)).alloc (.cells #[.slice A len cap] 24); simpa using this
  have b5 : Boxed W0 (w.heap.size + 1 + 1 + 1 + 1 + 1) 4 (.bool false) := by rw [hW0]; have := (Boxed.new (((((w.alloc (.cells #[.slice A len cap] 26)).alloc (.cells #[.int .i64 key] 3)).alloc (.cells #[.int .i64 m] 3)).alloc (.cells #[.int .i64 known] 3)).alloc (.cells #[.int .i64 0] 3)) 4 (.bool false)).alloc (.cells #[.slice A len cap] 24); simpa using this
  have b6 : Boxed W0 (w.heap.size + 1 + 1 + 1 + 1 + 1 + 1) 24 (.slice A len cap) := by rw [hW0]; have := Boxed.new ((((((w.alloc (.cells #[.slice A len cap] 26)).alloc (.cells #[.int .i64 key] 3)).alloc (.cells #[.int .i64 m] 3)).alloc (.cells #[.int .i64 known] 3)).alloc (.cells #[.int .i64 0] 3)).alloc (.cells #[.bool false] 4)) 24 (.slice A len cap); simpa using this
  rw [← hW0]
  clear hW0
  refine wpIn_rangeFunc_ownH hro h1 (gf := 78) (lb := #[.pointer (some ⟨w.heap.size + 1 + 1 + 1 + 1 + 1 + 1, 0, none⟩)]) rfl h3f (enters_of Try.func78 (by kernel_rfl) rfl)
    (back_stops F (n - 1) h3f hro (by omega) (w.heap.size + 1 + 1 + 1 + 1 + 1 + 1) W0.heap.size A len cap L (by omega) W0 (Nat.le_refl _) b6.cell ((hR.below hB0).more (by omega))) belowK_t (belowK_b (by omega)) (Below.refl _ _) (fun _ => rfl)
    (fun pre W => (Boxed W (w.heap.size + 1) 3 (.int .i64 key) ∧ Boxed W (w.heap.size + 1 + 1) 3 (.int .i64 m) ∧ Boxed W (w.heap.size + 1 + 1 + 1) 3 (.int .i64 known) ∧ Boxed W (w.heap.size + 1 + 1 + 1 + 1) 3 (.int .i64 0) ∧ Boxed W (w.heap.size + 1 + 1 + 1 + 1 + 1) 4 (.bool false) ∧ Boxed W (w.heap.size + 1 + 1 + 1 + 1 + 1 + 1) 24 (.slice A len cap)) ∧ (∀ y ∈ pre, vHit y.2 key m known = false) ∧ Below w.heap.size w W)
    (fun c pre W => c = .ret ∧ (∃ q x, pre = q ++ [x] ∧ (∀ y ∈ q, vHit y.2 key m known = false) ∧ vHit x.2 key m known = true ∧ Boxed W (w.heap.size + 1 + 1 + 1 + 1) 3 (.int .i64 x.2.v) ∧ Boxed W (w.heap.size + 1 + 1 + 1 + 1 + 1) 4 (.bool true)) ∧ Below w.heap.size w W)
    (fun s X Y row hs hg hr => ⟨⟨boxed_keep hs.1.1 hg fun r e => (hr r e).2, boxed_keep hs.1.2.1 hg fun r e => (hr r e).2, boxed_keep hs.1.2.2.1 hg fun r e => (hr r e).2, boxed_keep hs.1.2.2.2.1 hg fun r e => (hr r e).2, boxed_keep hs.1.2.2.2.2.1 hg fun r e => (hr r e).2, boxed_keep hs.1.2.2.2.2.2 hg fun r e => (hr r e).2⟩, hs.2.1, hs.2.2.grown hg hs.2.2.size (fun r e => by have := (hr r e).1; omega)⟩)
    (fun c s X Y row hs hg hr => ⟨hs.1, (by obtain ⟨q, x, h1, h2, h3, h4, h5⟩ := hs.2.1; exact ⟨q, x, h1, h2, h3, boxed_keep h4 hg fun r e => (hr r e).2, boxed_keep h5 hg fun r e => (hr r e).2⟩), hs.2.2.grown hg hs.2.2.size (fun r e => by have := (hr r e).1; omega)⟩)
    ⟨⟨b1, b2, b3, b4, b5, b6⟩, by simp, hB0⟩
    (fun x a' W => ∃ Bx, w.heap.size + 6 < Bx ∧ Whole W Bx 71 #[.int .i64 x.2.k, .int .i64 x.2.f, .int .i64 x.2.t, .int .i64 x.2.n, .int .i64 x.2.v] ∧ a' = { tmps := #[.agg #[.slice A len cap], .int .i64 key, .int .i64 m, .int .i64 known, .pointer (some ⟨w.heap.size, 0, none⟩), .pointer (some ⟨w.heap.size + 1, 0, none⟩), .pointer (some ⟨w.heap.size + 1 + 1, 0, none⟩), .pointer (some ⟨w.heap.size + 1 + 1 + 1, 0, none⟩), .pointer (some ⟨w.heap.size + 1 + 1 + 1 + 1, 0, none⟩), .pointer (some ⟨w.heap.size + 1 + 1 + 1 + 1 + 1, 0, none⟩), undef, .pointer (some ⟨Bx, 0, none⟩), .pointer (some ⟨w.heap.size, 0, none⟩), .slice A len cap, .func (.func 78) #[] #[.pointer (some ⟨w.heap.size + 1 + 1 + 1 + 1 + 1 + 1, 0, none⟩)], .int .i64 (x.1 : Int), x.2.val, undef, undef, undef, undef, undef, undef, undef, undef, undef, undef, undef, undef, undef, undef, undef, undef, undef, undef, undef, undef, undef, undef, undef, undef], defers := [] })
    (fun x a' _ X Y row hs hg hr => by obtain ⟨Bx, h1, h2, h3⟩ := hs; exact ⟨Bx, h1, whole_keep h2 hg (fun r e => (hr r e).2), h3⟩)
    ?assign ?body ?done ?stop
  case assign =>
    rintro l pre x W K ⟨⟨c1, c2, c3, c4, c5, c6⟩, hno, hB⟩ hK
    have hlt6 := c6.lt
    gi_wp2
    exact hK _ _ ((KeepsOthers.alloc _ _).from _) ((Below.refl _ W).alloc (by omega) _) ⟨⟨c1.alloc _, c2.alloc _, c3.alloc _, c4.alloc _, c5.alloc _, c6.alloc _⟩, hno, hB.alloc hB.size _⟩ ⟨W.heap.size, by omega, Whole.new W _ _, rfl⟩
  case body =>
    rintro l pre x a' W hl ⟨r, hr⟩ ⟨⟨c1, c2, c3, c4, c5, c6⟩, hno, hB⟩ ⟨Bx, hBx, bX, rfl⟩ hlt
    have d1 := c1.cell
    have d2 := c2.cell
    have d3 := c3.cell
    have d4 := c4.cell
    have d5 := c5.cell
    have f4 := c4.frozen
    have f5 := c5.frozen
    have x0 : W.cell? ⟨Bx, 0, none⟩ = some (.int .i64 x.2.k) := bX.cell 0
    have x1 : W.cell? ⟨Bx, 1, none⟩ = some (.int .i64 x.2.f) := bX.cell 1
    have x2 : W.cell? ⟨Bx, 2, none⟩ = some (.int .i64 x.2.t) := bX.cell 2
    have x3 : W.cell? ⟨Bx, 3, none⟩ = some (.int .i64 x.2.n) := bX.cell 3
    have x4 : W.cell? ⟨Bx, 4, none⟩ = some (.int .i64 x.2.v) := bX.cell 4
    cases e1 : x.2.k == key
    · gi_wp2
      exact ⟨(KeepsOthers.refl W).from _, Below.refl _ W, ⟨c1, c2, c3, c4, c5, c6⟩, no_more hno (by simp [vHit, e1]), hB⟩
    · skip
      cases e2 : decide (x.2.f ≤ m)
      · gi_wp2
        exact ⟨(KeepsOthers.refl W).from _, Below.refl _ W, ⟨c1, c2, c3, c4, c5, c6⟩, no_more hno (by simp [vHit, e1, e2]), hB⟩
      · skip
        cases e3 : decide (m < x.2.t)
        · gi_wp2
          exact ⟨(KeepsOthers.refl W).from _, Below.refl _ W, ⟨c1, c2, c3, c4, c5, c6⟩, no_more hno (by simp [vHit, e1, e2, e3]), hB⟩
        · skip
          cases e4 : decide (x.2.n ≤ known)
          · gi_wp2
            exact ⟨(KeepsOthers.refl W).from _, Below.refl _ W, ⟨c1, c2, c3, c4, c5, c6⟩, no_more hno (by simp [vHit, e1, e2, e3, e4]), hB⟩
          · skip
            gi_wp2
            exact ⟨((KeepsOthers.setCell _ _ _).trans (KeepsOthers.setCell _ _ _)).from _, rfl, ⟨pre, x, rfl, hno, by simp [vHit, e1, e2, e3, e4], (c4.set _).other (by omega) _, (c5.other (by omega) _).set _⟩, (hB.setCell (by simp; omega) _).setCell (by simp; omega) _⟩
  case done =>
    rintro D ys W hD rfl ⟨⟨c1, c2, c3, c4, c5, c6⟩, hno, hB⟩ hK
    have hv : valFrom L key m known len = none := valFrom_none fun i hi => by
      have := hno _ (upto_mem (f := backAt len L) (show len - 1 - i < len by omega))
      rw [backAt] at this
      simp only [show len - 1 - (len - 1 - i) = i by omega] at this
      exact this
    have HV := Lib.hid hv
    clear hv
    have d4 := c4.cell
    have d5 := c5.cell
    have f4 := c4.frozen
    have f5 := c5.frozen
    gi_wp2
    have e4 := (c4.set (.int .i64 0)).other (show w.heap.size + 1 + 1 + 1 + 1 ≠ w.heap.size + 1 + 1 + 1 + 1 + 1 by omega) (.bool false)
    have e5 := (c5.other (show w.heap.size + 1 + 1 + 1 + 1 + 1 ≠ w.heap.size + 1 + 1 + 1 + 1 by omega) (.int .i64 0)).set (.bool false)
    have hK' := ((KeepsOthers.setCell W ⟨w.heap.size + 1 + 1 + 1 + 1, 0, none⟩ (.int .i64 0)).trans (KeepsOthers.setCell _ ⟨w.heap.size + 1 + 1 + 1 + 1 + 1, 0, none⟩ (.bool false))).same D _ hK rfl
    refine ⟨by simp, .inl ⟨_, _, rfl, run_takeDeferred hK', ?_⟩⟩
    have g4 := (boxed_keep e4 (grownBy_putObj' _ D (.deferred none)) (fun r e => by cases e; exact ⟨_, hK', rfl⟩)).cell
    have g5 := (boxed_keep e5 (grownBy_putObj' _ D (.deferred none)) (fun r e => by cases e; exact ⟨_, hK', rfl⟩)).cell
    refine ⟨.tuple #[.int .i64 0, .bool false], ?_, by rw [HV.out]; rfl, ?_⟩
    · simp [results, Try.results38, go_sem, g4, g5]
    · exact ((hB.setCell (by simp; omega) _).setCell (by simp; omega) _).trans (belowK_b (w := w) (Nat.le_refl _) _ D _ _ (by omega) hK' rfl rfl)
  case stop =>
    rintro D c pre W hD ⟨k, hk, rfl⟩ ⟨rfl, ⟨q, x, hpq, hno, hhit, c4, c5⟩, hB⟩ hK
    have hv : valFrom L key m known len = some x.2.v := by
      cases k with
      | zero => simp [upto] at hpq
      | succ k =>
        rw [upto_succ] at hpq
        obtain ⟨h1, h2⟩ := List.append_inj' hpq rfl
        simp only [List.cons.injEq, and_true] at h2
        subst h1 h2
        rw [backAt] at hhit
        have := valFrom_hit (L := L) (key := key) (m := m) (known := known) (r := len) (j := len - 1 - k) (by omega) (fun i h1 h2 => by
          have := hno _ (upto_mem (f := backAt len L) (show len - 1 - i < k by omega))
          rw [backAt] at this
          simp only [show len - 1 - (len - 1 - i) = i by omega] at this
          exact this) hhit
        exact this
    have HV := Lib.hid hv
    clear hv
    gi_wp2
    refine ⟨by simp, .inl ⟨_, _, rfl, run_takeDeferred hK, ?_⟩⟩
    have g4 := (boxed_keep c4 (grownBy_putObj' _ D (.deferred none)) (fun r e => by cases e; exact ⟨_, hK, rfl⟩)).cell
    have g5 := (boxed_keep c5 (grownBy_putObj' _ D (.deferred none)) (fun r e => by cases e; exact ⟨_, hK, rfl⟩)).cell
    refine ⟨.tuple #[.int .i64 x.2.v, .bool true], ?_, by rw [HV.out]; rfl, ?_⟩
    · simp [results, Try.results38, go_sem, g4, g5]
    · exact hB.trans (belowK_b (w := w) (Nat.le_refl _) _ D _ _ (by omega) hK rfl rfl)

theorem iValueAt (w : World) (A : Option Addr) (len cap : Nat) (L : Nat → Fa) (key m known : Int) (hR : RdFa w w.heap.size A len L) :
    Calls Try.prog 38 #[.agg #[.slice A len cap], .int .i64 key, .int .i64 m, .int .i64 known] w fun e w' => e = .returned (.tuple #[.int .i64 ((valFrom L key m known len).getD 0), .bool (valFrom L key m known len).isSome]) ∧ Below w.heap.size w w' := by
  refine (callsIn_wide (n := 3)).1 ?_
  exact ValueAt_in _ 3 trivial trivial trivial rfl (by omega) A len cap L key m known w hR
end Go.Proofs.Ytondmakaednpdaa
