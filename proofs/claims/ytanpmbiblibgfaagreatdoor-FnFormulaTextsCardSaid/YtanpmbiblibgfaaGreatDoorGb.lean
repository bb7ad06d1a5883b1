/- A region that draws its order, whose own operations only read, beside calls that make memory: one walk, in the worlds of a class. No program's function in sight. -/
import Derived.Test.YtanpmbiblibgfaaGreatDoorGa
import Derived.BigQuiet
import Derived.Deep.Draws
import Derived.Maps.AppendAt
import Derived.ProofKit
import Derived.Deep.OwnRows
namespace Go.Proofs.YtanpmbiblibgfaaGreatDoor
open Go.RowKit

/-- A world of the class S. -/
structure InClass (S : World → Prop) where
  w : World
  h : S w
theorem wp_region_class {P : Program} {S : World → Prop} {id : Nat} {Q : Exit → Act → World → Prop} {a : Act} {w : World} {l : List Oper} (hm : P.follows .mixedOrders = true) (hB : Region.lexB .any l.toArray = true) (hS : S w.drew)
    (h : wpQuiet P l.toArray (fun w' => ∃ x : InClass S, w' = x.w) (fun a' => ∀ w', (∃ x : InClass S, w' = x.w) → Q .normal a' w') l a) : (Code.region id l.toArray true).wp P Q a w :=
  wp_region_quiet (C := fun w' => ∃ x : InClass S, w' = x.w) hm hB ⟨⟨w.drew, hS⟩, rfl⟩ (by rw [List.toList_toArray]; exact h)
/-- A callee that makes memory leaves a world of the class. -/
theorem class_call {P : Program} {S : World → Prop} {f : FuncId} {args : Array Value} {x : InClass S} {v : Value} (h : Calls P f args x.w fun e w' => e = .returned v ∧ Below x.w.heap.size x.w w')
    (hk : ∀ (u u' : World), S u → Below u.heap.size u u' → S u') : Calls P f args x.w fun e w'' => e = .returned v ∧ ∃ y : InClass S, w'' = y.w :=
  h.mono fun _ w' ⟨he, hb⟩ => ⟨he, ⟨w', hk _ _ x.h hb⟩, rfl⟩
theorem class_same {P : Program} {S : World → Prop} {f : FuncId} {args : Array Value} {x : InClass S} {v : Value} (h : Calls P f args x.w fun e w' => e = .returned v ∧ x.w = w') : Calls P f args x.w fun e w'' => e = .returned v ∧ ∃ y : InClass S, w'' = y.w :=
  h.mono fun _ _ ⟨he, hw⟩ => ⟨he, x, hw.symm⟩
end Go.Proofs.YtanpmbiblibgfaaGreatDoor
/- Words for memory: a block that is known whole, bytes that came in, the cursor of a draw. No program's function in sight. -/
namespace Go.Proofs.YtanpmbiblibgfaaGreatDoor
open Go.RowKit

/-- Block g holds just the cells cs, of element type t; none is frozen. -/
def Whole (w : World) (g : Nat) (t : TypeId) (cs : Array Value) : Prop := w.heap[g]? = some (.cells cs t (0, 0))
section
variable {w w' : World} {g : Nat} {t : TypeId} {cs : Array Value}
theorem Whole.lt (h : Whole w g t cs) : g < w.heap.size := by
  unfold Whole at h
  rcases Nat.lt_or_ge g w.heap.size with k | k
  · exact k
  · rw [Array.getElem?_eq_none k] at h
    cases h
theorem Whole.cell (h : Whole w g t cs) (i : Nat) : w.cell? ⟨g, i, none⟩ = cs[i]? := by
  unfold Whole at h
  simp [World.cell?, h]
theorem Whole.free (h : Whole w g t cs) (i : Nat) : w.frozen? ⟨g, i, none⟩ = false := by
  unfold Whole at h
  simp [World.frozen?, h]
theorem Whole.put (h : Whole w g t cs) (i : Nat) (u : Value) : Whole (w.setCell ⟨g, i, none⟩ u) g t (cs.setIfInBounds i u) := by
  unfold Whole at h ⊢
  simp [World.setCell, Array.getElem?_modify, h]
theorem Whole.drewN (h : Whole w g t cs) (n : Nat) : Whole (w.drewN n) g t cs := h
theorem Whole.drew (h : Whole w g t cs) : Whole w.drew g t cs := h
theorem Whole.alloc (h : Whole w g t cs) (o : Obj) : Whole (w.alloc o) g t cs := (Below.heap_alloc w o g h.lt).trans h
theorem Whole.new (w : World) (t : TypeId) (cs : Array Value) : Whole (w.alloc (.cells cs t)) w.heap.size t cs := by
  unfold Whole
  show (w.heap.push _)[w.heap.size]? = _
  rw [Array.getElem?_push, if_pos rfl]
theorem Whole.grown (h : Whole w g t cs) {row : Option Nat} (hg : w.grownBy w' row) (hn : some g ≠ row) : Whole w' g t cs := (hg.block g h.lt hn).trans h
theorem Whole.far (h : Whole w g t cs) {p : Addr} (hp : g ≠ p.block) (u : Value) : Whole (w.setCell p u) g t cs := (Below.heap_setCell w p u g hp).trans h
theorem Whole.below {B : Nat} (h : Whole w g t cs) (hb : Below B w w') (hg : g < B) : Whole w' g t cs := (hb.block g hg).trans h
theorem own_apart {base : Nat} {e : TypeId} {size n : Nat} {v : Value} {xs : List Value} (h : w.ownsRow base e size v n xs) (hg : Whole w g t cs) (hne : e ≠ t) : v.ownBlock ≠ some g := by
  rcases h.2 with ⟨rfl, _⟩ | ⟨k, cap, cur, rfl, _, hh, _⟩
  · simp [Value.ownBlock]
  · intro he
    have e1 : k = g := by simpa [Value.ownBlock] using he
    subst e1
    unfold Whole at hg
    rw [hg] at hh
    injection hh with hh
    injection hh with _ ht
    exact hne ht.symm
end

/-- An empty slice in a block of its own owns nothing. -/
theorem own_empty (w : World) (base : Nat) (e : TypeId) (size : Nat) (h : base ≤ w.heap.size) : (w.alloc (.cells #[] e)).ownsRow base e size (.slice (some ⟨w.heap.size, 0, none⟩) 0 0) 0 [] :=
  ⟨by simp, .inr ⟨w.heap.size, 0, #[], rfl, h, Whole.new w e #[], Nat.le_refl _, Nat.zero_le _, by simp, by simp⟩⟩

/-- n bytes lie at A, in blocks below B. -/
def Bys (w : World) (B : Nat) (A : Option Addr) (n : Nat) : Prop :=
  n ≤ 9223372036854775807 ∧ ∀ k, k < n → ∃ (b off : Nat) (z : Int), A = some ⟨b, off, none⟩ ∧ b < B ∧ w.cell? ⟨b, off + k, none⟩ = some (.int .u8 z) ∧ 0 ≤ z ∧ z ≤ 255
theorem Bys.grown {w w' : World} {B n : Nat} {A : Option Addr} (h : Bys w B A n) {row : Option Nat} (hg : w.grownBy w' row) (hB : B ≤ w.heap.size) (hr : ∀ k, row = some k → B ≤ k) : Bys w' B A n :=
  ⟨h.1, fun k hk => by
    obtain ⟨b, off, z, e, hb, hc, h0, h1⟩ := h.2 k hk
    exact ⟨b, off, z, e, hb, (World.cell?_of_block (hg.block b (by omega) (fun e => by have := hr b e.symm; omega))).trans hc, h0, h1⟩⟩
theorem Bys.below {w w' : World} {B n : Nat} {A : Option Addr} (h : Bys w B A n) (hb : Below B w w') : Bys w' B A n :=
  ⟨h.1, fun k hk => by
    obtain ⟨b, off, z, e, hlt, hc, h0, h1⟩ := h.2 k hk
    exact ⟨b, off, z, e, hlt, (hb.cell (p := ⟨b, off + k, none⟩) hlt).trans hc, h0, h1⟩⟩

/-- The cursor of a draw: block g holds the bytes that came in, the place and the number that is stirred. -/
def Cur (w : World) (B g : Nat) (A : Option Addr) (n c : Nat) : Prop :=
  ∃ i h : Int, Whole w g 57 #[.slice A n c, .int .i64 i, .int .i64 h] ∧ 0 ≤ i ∧ i ≤ n ∧ B ≤ g ∧ B ≤ w.heap.size ∧ Bys w B A n
/-- What a draw leaves: a number with P, the cursor, and nothing else turned but new memory. -/
def Drawn (w : World) (B g : Nat) (A : Option Addr) (n c : Nat) (P : Int → Prop) (e : Ending) (w' : World) : Prop :=
  ∃ x : Int, e = .returned (.int .i64 x) ∧ P x ∧ Cur w' B g A n c ∧ w.grownBy w' (some g)

theorem Cur.grown {w w' : World} {B g n c : Nat} {A : Option Addr} (h : Cur w B g A n c) {row : Option Nat} (hg : w.grownBy w' row) (hn : some g ≠ row) (hr : ∀ k, row = some k → B ≤ k) : Cur w' B g A n c := by
  obtain ⟨i, s, h1, h2, h3, h4, h5, h6⟩ := h
  exact ⟨i, s, h1.grown hg hn, h2, h3, h4, Nat.le_trans h5 hg.size, h6.grown hg h5 hr⟩
theorem grown_refl (w : World) (row : Option Nat) : w.grownBy w row := ⟨rfl, rfl, rfl, Nat.le_refl _, fun _ _ _ => rfl⟩
theorem grown_trans {a b c : World} {row : Option Nat} (h : a.grownBy b row) (k : b.grownBy c row) : a.grownBy c row :=
  ⟨k.os.trans h.os, k.tape.trans h.tape, k.output.trans h.output, Nat.le_trans h.size k.size, fun i hi hn => (k.block i (Nat.lt_of_lt_of_le hi h.size) hn).trans (h.block i hi hn)⟩
theorem grown_drewN {a b : World} {row : Option Nat} (h : a.grownBy b row) (n : Nat) : a.grownBy (b.drewN n) row := ⟨h.os, h.tape, h.output, h.size, h.block⟩
theorem grown_setCell {a b : World} {g : Nat} (h : a.grownBy b (some g)) {p : Addr} (hp : p.block = g) (u : Value) : a.grownBy (b.setCell p u) (some g) :=
  ⟨h.os, h.tape, h.output, by simpa [World.setCell] using h.size, fun i hi hn => (Below.heap_setCell b p u i (fun e => hn (by rw [← hp, e]))).trans (h.block i hi hn)⟩

theorem and255 (x : Int) : 0 ≤ bits .and .i64 x 255 ∧ bits .and .i64 x 255 ≤ 255 := by
  have h1 : (BitVec.ofInt IntKind.i64.bits x &&& BitVec.ofInt IntKind.i64.bits 255).toNat ≤ 255 := by
    rw [BitVec.toNat_and]
    exact Nat.le_trans Nat.and_le_right (by decide)
  have h2 : bits .and .i64 x 255 = IntKind.i64.wrap ((BitVec.ofInt IntKind.i64.bits x &&& BitVec.ofInt IntKind.i64.bits 255).toNat : Int) := rfl
  rw [h2, IntKind.wrap_i64]
  omega
end Go.Proofs.YtanpmbiblibgfaaGreatDoor
/- Contracts of the small functions over months. No conditions. -/
namespace Go.Proofs.YtanpmbiblibgfaaGreatDoor
open Go.RowKit

theorem quietN {P : Program} {f : FuncId} {args : Array Value} {w : World} {n : Nat} {v : Value}
    (h : Calls P f args (w.drewN n) fun e w' => e = .returned v ∧ w.drewN n = w') : Calls P f args (w.drewN n) fun e w'' => e = .returned v ∧ ∃ m, w'' = w.drewN m :=
  h.mono fun _ _ ⟨he, hw⟩ => ⟨he, n, hw.symm⟩

/-- A span of months: 0 ≤ a < b ≤ 3600. -/
def spanB (a b : Int) : Bool := decide (0 ≤ a) && decide (a < b) && decide (b ≤ 3600)
theorem spanB_iff {a b : Int} : spanB a b = true ↔ 0 ≤ a ∧ a < b ∧ b ≤ 3600 := by simp [spanB, and_assoc]
end Go.Proofs.YtanpmbiblibgfaaGreatDoor
/- What the walk is told of a slice of integers that came in. No program's function in sight. -/
namespace Go.Proofs.YtanpmbiblibgfaaGreatDoor
open Go.RowKit

/-- The slice holds the numbers zs. -/
def ArgInts (k : IntKind) (w : World) (A : Option Addr) (n cap : Nat) (zs : List Int) : Prop :=
  zs.length = n ∧ n ≤ cap ∧ cap ≤ 9223372036854775807 ∧ (∀ i, i < n → ∃ b off, A = some ⟨b, off, none⟩ ∧ b < w.heap.size ∧ w.cell? ⟨b, off + i, none⟩ = some (.int k (zs.getD i 0))) ∧ ∀ z ∈ zs, (Lit.int k z).wf = true
theorem argInts_nil {k : IntKind} {w : World} : ArgInts k w none 0 0 [] := ⟨rfl, Nat.le_refl _, Nat.zero_le _, fun i h => absurd h (by omega), by simp⟩
theorem cell_lt {w : World} {b o : Nat} {u : Value} (h : w.cell? ⟨b, o, none⟩ = some u) : b < w.heap.size := by
  rcases Nat.lt_or_ge b w.heap.size with k | k
  · exact k
  · rw [World.cell?, Array.getElem?_eq_none k] at h
    cases h
theorem argInts_mk {k : IntKind} {w : World} {x : Addr} {n cap : Nat} {zs : List Int} (hl : n ≤ cap) (hm : cap ≤ maxLen) (hz : zs.length = cap) (hc : ∀ i, i < zs.length → w.cell? (x.add i) = some (.int k (zs.getD i 0))) (hw : ∀ z ∈ zs, (Lit.int k z).wf = true) : ArgInts k w (some x) n cap (zs.take n) := by
  refine ⟨by rw [List.length_take]; omega, hl, hm, fun i hi => ?_, fun z hz => hw z (List.mem_of_mem_take hz)⟩
  obtain ⟨b, off, spot⟩ := x
  have h0 := hc 0 (by omega)
  have hs : spot = none := by simpa [Addr.add] using World.cell?_spot h0
  subst hs
  have h1 : w.cell? ⟨b, off + i, none⟩ = some (.int k (zs.getD i 0)) := by
    have := hc i (by omega)
    by_cases hi0 : i = 0
    · subst hi0; simpa [Addr.add] using this
    · simpa [Addr.add, hi0] using this
  refine ⟨b, off, rfl, cell_lt h1, ?_⟩
  rw [h1]
  simp [List.getD, hi]
theorem argBys {w : World} {A : Option Addr} {n cap : Nat} {zs : List Int} (h : ArgInts .u8 w A n cap zs) : Bys w w.heap.size A n := by
  obtain ⟨h1, h2, h3, h4, h5⟩ := h
  refine ⟨by omega, fun k hk => ?_⟩
  obtain ⟨b, off, e, hb, hc⟩ := h4 k hk
  have hz : zs.getD k 0 ∈ zs := by
    rw [List.getD_eq_getElem?_getD, List.getElem?_eq_getElem (by omega)]
    exact List.getElem_mem _
  have hw := h5 _ hz
  have hb2 : 0 ≤ zs.getD k 0 ∧ zs.getD k 0 ≤ 255 := by
    have e1 : IntKind.u8.min = 0 := by decide
    have e2 : IntKind.u8.max = 255 := by decide
    simp only [Lit.wf, e1, e2, Bool.and_eq_true, decide_eq_true_eq] at hw
    omega
  exact ⟨b, off, _, e, hb, hc, hb2.1, hb2.2⟩
end Go.Proofs.YtanpmbiblibgfaaGreatDoor
/- Slices of integers: copied, compared, marked. Conditions: the cells can be read. -/
namespace Go.Proofs.YtanpmbiblibgfaaGreatDoor
open Go.RowKit

theorem int_inf : (Tryz.prog.info? 3).map (fun i => (i.zero, i.size, i.bytes)) = some (some (.int .i64 0), 1, 8) := by kernel_rfl

/-- n numbers z lie at A, in blocks below B. -/
def RdI (w : World) (B : Nat) (A : Option Addr) (n : Nat) (z : Nat → Int) : Prop :=
  n ≤ 9223372036854775807 ∧ ∀ i, i < n → ∃ b off, A = some ⟨b, off, none⟩ ∧ b < B ∧ w.cell? ⟨b, off + i, none⟩ = some (.int .i64 (z i))
section
variable {w w' : World} {B n : Nat} {A : Option Addr} {z : Nat → Int}
theorem RdI.below (h : RdI w B A n z) (hb : Below B w w') : RdI w' B A n z :=
  ⟨h.1, fun i hi => by
    obtain ⟨b, off, e, hlt, hc⟩ := h.2 i hi
    exact ⟨b, off, e, hlt, (hb.cell (p := ⟨b, off + i, none⟩) hlt).trans hc⟩⟩
theorem RdI.more (h : RdI w B A n z) {B' : Nat} (hB : B ≤ B') : RdI w B' A n z :=
  ⟨h.1, fun i hi => by
    obtain ⟨b, off, e, hlt, hc⟩ := h.2 i hi
    exact ⟨b, off, e, by omega, hc⟩⟩
theorem RdI.row {g : Nat} {t : TypeId} (h : w.rowIs g t n (fun i => .int .i64 (z i))) (hB : g < B) (hn : n ≤ 9223372036854775807) : RdI w B (some ⟨g, 0, none⟩) n z :=
  ⟨hn, fun i hi => ⟨g, 0, rfl, hB, by rw [Nat.zero_add]; exact h.cell hi⟩⟩
theorem RdI.arg {cap : Nat} {zs : List Int} (h : ArgInts .i64 w A n cap zs) : RdI w w.heap.size A n (fun i => zs.getD i 0) := by
  obtain ⟨h1, h2, h3, h4, h5⟩ := h
  exact ⟨by omega, fun i hi => h4 i hi⟩
theorem row_of_own {base size : Nat} {e : TypeId} {g m : Nat} {xs : List Value} (h : w.ownsRow base e size (.slice (some ⟨g, 0, none⟩) m m) m xs) : w.rowIs g e (m * size) (fun j => xs.getD j undef) ∧ base ≤ g := by
  obtain ⟨hl, h⟩ := h
  rcases h with ⟨h, _⟩ | ⟨g', cap, cur, hv, hg, hh, h1, h2, h3, h4⟩
  · cases h
  · injection hv with hv1 _ hv2
    injection hv1 with hv1
    injection hv1 with hv1
    subst hv1 hv2
    refine ⟨⟨cur, hh, h3, fun i hi => ?_⟩, hg⟩
    have e1 : cur.toList = xs := by rw [← h4, List.take_of_length_le (by simp [h3])]
    show cur[i]? = some (xs.getD i undef)
    rw [← Array.getElem?_toList, e1, List.getElem?_eq_getElem (by omega), List.getD_eq_getElem?_getD, List.getElem?_eq_getElem (by omega)]
    rfl
end

theorem own_of_row {w : World} {g n base : Nat} {t : TypeId} {f : Nat → Value} (h : w.rowIs g t n f) (hg : base ≤ g) (hn : n ≤ maxLen) : w.ownsRow base t 1 (.slice (some ⟨g, 0, none⟩) n n) n ((List.range n).map f) := by
  obtain ⟨c, hh, hs, hc⟩ := h
  refine ⟨by simp, .inr ⟨g, n, c, rfl, hg, hh, Nat.le_refl _, hn, by omega, ?_⟩⟩
  refine List.ext_getElem? fun i => ?_
  by_cases hi : i < n
  · rw [List.getElem?_take, if_pos (by omega), Array.getElem?_toList, hc i hi, List.getElem?_map, List.getElem?_range hi]
    rfl
  · rw [List.getElem?_eq_none (by simp; omega), List.getElem?_eq_none (by simp; omega)]
theorem RdI.own {w : World} {base n c : Nat} {A : Option Addr} {xs : List Int} (h : w.ownsRow base 3 1 (.slice A n c) n (xs.map (Value.int .i64))) (hn : n ≤ 9223372036854775807) : RdI w w.heap.size A n (fun i => xs.getD i 0) := by
  refine ⟨hn, fun i hi => ?_⟩
  have hl : xs.length = n := by have := h.1; simpa using this
  have h' := h
  obtain ⟨_, h⟩ := h
  rcases h with ⟨_, h0⟩ | ⟨g, cap, cur, hv, hg, hh, _⟩
  · omega
  · injection hv with hv1 _ hv2
    subst hv1 hv2
    refine ⟨g, 0, rfl, Whole.lt (cs := cur) hh, ?_⟩
    have hc := h'.cellAt i (by omega)
    show _ = some (Value.int .i64 (xs.getD i 0))
    rw [Nat.zero_add, hc, List.getElem?_map, List.getElem?_eq_getElem (by omega), List.getD_eq_getElem?_getD, List.getElem?_eq_getElem (by omega)]
    rfl

/-- The marks from k on. -/
def marks (k : Int) (n : Nat) : List Int := (List.range n).map fun (i : Nat) => k + (i : Int)
theorem marks_len (k : Int) (n : Nat) : (marks k n).length = n := by simp [marks]
theorem marks_at {k : Int} {n i : Nat} (h : i < n) : (marks k n).getD i 0 = k + (i : Int) := by
  rw [marks, List.getD_eq_getElem?_getD, List.getElem?_map, List.getElem?_range h]
  rfl

end Go.Proofs.YtanpmbiblibgfaaGreatDoor
/- A row that the call itself owns, its cells by their index. No program's function in sight. -/
namespace Go.Proofs.YtanpmbiblibgfaaGreatDoor
open Go.RowKit

/-- v is a slice of n elements of size cells each, in a block of our own from base on; cell j holds F j. -/
def OwR (w : World) (base : Nat) (e : TypeId) (size : Nat) (v : Value) (n : Nat) (F : Nat → Value) : Prop :=
  (v = .slice none 0 0 ∧ n = 0) ∨ ∃ g cap G, v = .slice (some ⟨g, 0, none⟩) n cap ∧ base ≤ g ∧ n ≤ cap ∧ cap ≤ maxLen ∧ w.rowIs g e (cap * size) G ∧ ∀ j, j < n * size → G j = F j
section
variable {w w' : World} {base size n : Nat} {e : TypeId} {v : Value} {F F' : Nat → Value}
theorem OwR.of_own {xs : List Value} (h : w.ownsRow base e size v n xs) : OwR w base e size v n (fun j => xs.getD j undef) := by
  obtain ⟨hl, h⟩ := h
  rcases h with h | ⟨g, cap, cur, hv, hg, hh, h1, h2, h3, h4⟩
  · exact .inl h
  · refine .inr ⟨g, cap, fun j => cur.toList.getD j undef, hv, hg, h1, h2, ⟨cur, hh, h3, fun i hi => ?_⟩, fun j hj => ?_⟩
    · show cur[i]? = some (cur.toList.getD i undef)
      rw [← Array.getElem?_toList, List.getD_eq_getElem?_getD, List.getElem?_eq_getElem (by simp; omega)]
      rfl
    · show cur.toList.getD j undef = xs.getD j undef
      rw [← h4, List.getD_eq_getElem?_getD, List.getD_eq_getElem?_getD, List.getElem?_take, if_pos hj]
theorem OwR.of_row {g : Nat} (h : w.rowIs g e (n * size) F) (hg : base ≤ g) (hn : n ≤ maxLen) : OwR w base e size (.slice (some ⟨g, 0, none⟩) n n) n F :=
  .inr ⟨g, n, F, rfl, hg, Nat.le_refl _, hn, h, fun _ _ => rfl⟩
theorem OwR.congr (h : OwR w base e size v n F) (hF : ∀ j, j < n * size → F j = F' j) : OwR w base e size v n F' := by
  rcases h with h | ⟨g, cap, G, h1, h2, h3, h4, h5, h6⟩
  · exact .inl h
  · exact .inr ⟨g, cap, G, h1, h2, h3, h4, h5, fun j hj => (h6 j hj).trans (hF j hj)⟩
theorem OwR.lt (h : OwR w base e size v n F) : ∀ k, v.ownBlock = some k → base ≤ k ∧ k < w.heap.size := by
  intro k hk
  rcases h with ⟨rfl, _⟩ | ⟨g, cap, G, rfl, h2, _, _, h5, _⟩
  · simp [Value.ownBlock] at hk
  · simp only [Value.ownBlock, Option.some.injEq] at hk
    subst hk
    exact ⟨h2, h5.lt⟩
theorem OwR.kept (h : OwR w base e size v n F) {row : Option Nat} (hg : w.grownBy w' row) (hne : ∀ k, v.ownBlock = some k → row ≠ some k) : OwR w' base e size v n F := by
  rcases h with h | ⟨g, cap, G, rfl, h2, h3, h4, h5, h6⟩
  · exact .inl h
  · exact .inr ⟨g, cap, G, rfl, h2, h3, h4, h5.of_block (hg.block g h5.lt (fun e => hne g rfl e.symm)), h6⟩
theorem OwR.below {B : Nat} (h : OwR w base e size v n F) (hb : Below B w w') (hB : ∀ k, v.ownBlock = some k → k < B) : OwR w' base e size v n F := by
  rcases h with h | ⟨g, cap, G, rfl, h2, h3, h4, h5, h6⟩
  · exact .inl h
  · exact .inr ⟨g, cap, G, rfl, h2, h3, h4, h5.of_block (hb.block g (hB g rfl)), h6⟩
theorem OwR.all (h : OwR w base e size v n F) (hb : Below w.heap.size w w') : OwR w' base e size v n F := h.below hb fun k hk => (h.lt k hk).2
/-- What is owned above the block that was written. -/
theorem OwR.other (h : OwR w base e size v n F) {g : Nat} (hg : w.grownBy w' (some g)) (hne : g < base) : OwR w' base e size v n F :=
  h.kept hg fun k hk e => by have := (h.lt k hk).1; injection e; omega
theorem OwR.less (h : OwR w base e size v n F) {base' : Nat} (hb : base' ≤ base) : OwR w base' e size v n F := by
  rcases h with h | ⟨g, cap, G, rfl, h2, h3, h4, h5, h6⟩
  · exact .inl h
  · exact .inr ⟨g, cap, G, rfl, by omega, h3, h4, h5, h6⟩
theorem OwR.len (h : OwR w base e size v n F) : n ≤ maxLen := by
  rcases h with ⟨_, h⟩ | ⟨g, cap, G, rfl, h2, h3, h4, _⟩
  · subst h; exact Nat.zero_le _
  · omega
theorem OwR.form (h : OwR w base e size v n F) : ∃ B c, v = .slice B n c := by
  rcases h with ⟨rfl, rfl⟩ | ⟨g, cap, G, rfl, _⟩
  · exact ⟨none, 0, rfl⟩
  · exact ⟨_, cap, rfl⟩
end
theorem grown_of_below {w w' : World} (h : Below w.heap.size w w') (row : Option Nat) : w.grownBy w' row := ⟨h.os, h.tape, h.output, h.size, fun k hk _ => h.block k hk⟩
theorem below_of_grown {w w' : World} {B g : Nat} (h : w.grownBy w' (some g)) (hB : B ≤ g) (hs : B ≤ w.heap.size) : Below B w w' :=
  (Below.refl B w).grown h hs (fun k hk => by injection hk; omega)
/-- The cells of a list of elements of s cells each. -/
theorem flat_get {α : Type} {s : Nat} {f : α → List Value} (hf : ∀ x, (f x).length = s) : ∀ (xs : List α) (i j : Nat), j < s → (xs.flatMap f)[i * s + j]? = xs[i]?.bind fun x => (f x)[j]?
  | [], i, j, _ => by simp
  | x :: xs, 0, j, hj => by
    rw [List.flatMap_cons, Nat.zero_mul, Nat.zero_add, List.getElem?_append_left (by rw [hf]; exact hj)]
    rfl
  | x :: xs, i + 1, j, hj => by
    rw [List.flatMap_cons, List.getElem?_append_right (by rw [hf, Nat.add_mul]; omega), hf, show (i + 1) * s + j - s = i * s + j by rw [Nat.add_mul]; omega, flat_get hf xs i j hj]
    rfl
theorem flat_len {α : Type} {s : Nat} {f : α → List Value} (hf : ∀ x, (f x).length = s) : ∀ xs : List α, (xs.flatMap f).length = xs.length * s
  | [] => by simp
  | x :: xs => by rw [List.flatMap_cons, List.length_append, hf, flat_len hf xs, List.length_cons, Nat.add_mul]; omega
end Go.Proofs.YtanpmbiblibgfaaGreatDoor
