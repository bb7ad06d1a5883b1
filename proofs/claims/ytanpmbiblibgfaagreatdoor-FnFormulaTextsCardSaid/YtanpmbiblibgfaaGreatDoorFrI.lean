/- The reader of formulas, of the program: what its box holds. Conditions: none. -/
import Derived.Test.YtanpmbiblibgfaaGreatDoorFrm
import Derived.Test.YtanpmbiblibgfaaGreatDoorShK
import Derived.Test.YtanpmbiblibgfaaGreatDoorSPar
import Derived.Lib.SlicesS
import Derived.Lib.Hide
import Derived.Deep.AppendLies
namespace Go.Proofs.YtanpmbiblibgfaaGreatDoor
open Go.RowKit
set_option linter.unusedVariables false
/-- The reader's box: the words that are left, the own row of nodes. -/
def BoxR (w : World) (base rb : Nat) (A : Option Addr) (n c : Nat) (v : Value) (xs : List No) : Prop := Whole w rb 52 #[.slice A n c, v] ∧ w.ownsRow base 46 6 v xs.length (xs.flatMap No.cells)
theorem FR.put {ob : Nat} {w w' : World} {v v' : Value} (h : FR ob w w' v v') (i : Nat) (x : Value) : FR ob w (w'.setCell ⟨ob, i, none⟩ x) v v' :=
  ⟨h.os, h.tape, h.output, by have := h.size; simpa [World.setCell] using this,
    fun k hk h1 h2 => (Below.heap_setCell w' ⟨ob, i, none⟩ x k (fun e => h1 e)).trans (h.block k hk h1 h2), h.own⟩
theorem FR.alloc {ob : Nat} {w w' : World} {v v' : Value} (h : FR ob w w' v v') (o : Obj) : FR ob w (w'.alloc o) v v' := h.trans (FR.of_below ((Below.refl _ w').alloc (Nat.le_refl _) o) ob v')
theorem WdR.tail {w : World} {lim g off : Nat} {x : List UInt8} {ws : List (List UInt8)} (h : WdR w lim (some ⟨g, off, none⟩) (x :: ws)) : WdR w lim (some ⟨g, off + 1, none⟩) ws := fun j y hy => by
  obtain ⟨g', off', e, hg, hc⟩ := h (j + 1) y hy
  injection e with e
  injection e with e1 e2
  subst e1 e2
  exact ⟨g, off + 1, rfl, hg, by rw [Nat.add_assoc, Nat.add_comm 1 j]; exact hc⟩
theorem BoxR.far {w : World} {base rb g i n c : Nat} {A : Option Addr} {v : Value} {xs : List No} (h : BoxR w base rb A n c v xs) (h1 : g ≠ rb) (h2 : v.ownBlock ≠ some g) (x : Value) : BoxR (w.setCell ⟨g, i, none⟩ x) base rb A n c v xs :=
  ⟨(Below.heap_setCell w ⟨g, i, none⟩ x rb (fun e => h1 e.symm)).trans h.1, h.2.kept (row := some g) (grown_setCell (grown_refl w _) (p := ⟨g, i, none⟩) rfl x) (.inr h2)⟩
theorem BoxR.below {w w' : World} {base rb n c : Nat} {A : Option Addr} {v : Value} {xs : List No} (h : BoxR w base rb A n c v xs) (hb : Below w.heap.size w w') : BoxR w' base rb A n c v xs :=
  ⟨h.1.below hb h.1.lt, h.2.kept (row := none) (grown_of_below hb none) (Classical.em _)⟩
theorem BoxR.shape {w : World} {base rb n c : Nat} {A : Option Addr} {v : Value} {xs : List No} (h : BoxR w base rb A n c v xs) : ∃ A n c, v = .slice A n c ∧ n = xs.length := by
  obtain ⟨A, c, e⟩ := own_shape h.2
  exact ⟨A, _, c, e, rfl⟩
/-- What the reader leaves. -/
def NodeE (base rb : Nat) (w : World) (v : Value) (xs : List No) (res : Option (List No × List (List UInt8))) (e : Ending) (w' : World) : Prop :=
  ∃ v' : Value, FR rb w w' v v' ∧ match res with
    | some (ns, r) => e = .returned (.bool true) ∧ ∃ (A : Option Addr) (c : Nat), BoxR w' base rb A r.length c v' (xs ++ ns) ∧ r.length ≤ c ∧ WdR w' base A r
    | none => e = .returned (.bool false)
theorem NodeE.none_ {base rb : Nat} {w w' : World} {v v' : Value} {xs : List No} (h : FR rb w w' v v') : NodeE base rb w v xs none (.returned (.bool false)) w' := ⟨v', h, rfl⟩
theorem NodeE.some_ {base rb c : Nat} {w w' : World} {v v' : Value} {xs ns : List No} {r : List (List UInt8)} {A : Option Addr} (h : FR rb w w' v v') (h1 : BoxR w' base rb A r.length c v' (xs ++ ns)) (h2 : r.length ≤ c) (h3 : WdR w' base A r) : NodeE base rb w v xs (some (ns, r)) (.returned (.bool true)) w' := ⟨v', h, rfl, A, c, h1, h2, h3⟩
theorem boxR_app {base rb n c : Nat} {w u w3 : World} {A : Option Addr} {v : Value} {xs : List No} {s : No} {g3 cap3 : Nat} (hf : FR rb w u v v) (own3 : w3.ownsRow base 46 6 (.slice (some ⟨g3, 0, none⟩) (xs.length + 1) cap3) (xs.length + 1) (xs.flatMap No.cells ++ s.cells)) (hg3 : u.grownBy w3 v.ownBlock) (hat : v.ownBlock = some g3 ∨ g3 = u.heap.size) (pO3 : Whole w3 rb 52 #[.slice A n c, v]) :
    BoxR (w3.setCell ⟨rb, 1, none⟩ (.slice (some ⟨g3, 0, none⟩) (xs.length + 1) cap3)) base rb A n c (.slice (some ⟨g3, 0, none⟩) (xs.length + 1) cap3) (xs ++ [s]) ∧ FR rb w (w3.setCell ⟨rb, 1, none⟩ (.slice (some ⟨g3, 0, none⟩) (xs.length + 1) cap3)) v (.slice (some ⟨g3, 0, none⟩) (xs.length + 1) cap3) := by
  have hne := own_apart own3 pO3 (by decide)
  refine ⟨⟨by simpa using pO3.put 1 _, ?_⟩, ?_⟩
  · have h1 := own3.kept (row := some rb) (grown_setCell (grown_refl w3 _) (p := ⟨rb, 1, none⟩) rfl (.slice (some ⟨g3, 0, none⟩) (xs.length + 1) cap3)) (.inr hne)
    have h2 : (xs ++ [s]).flatMap No.cells = xs.flatMap No.cells ++ s.cells := by simp
    rw [h2, List.length_append]
    exact h1
  · exact ⟨hg3.os.trans hf.os, hg3.tape.trans hf.tape, hg3.output.trans hf.output, by have := hf.size; have := hg3.size; simp [World.setCell]; omega,
      fun k hk h1 h2 => (Below.heap_setCell w3 ⟨rb, 1, none⟩ _ k (fun e => h1 e)).trans ((hg3.block k (Nat.lt_of_lt_of_le hk hf.size) (fun e => h2 e.symm)).trans (hf.block k hk h1 h2)),
      fun q hq => by
        have hq' : some g3 = some q := hq
        injection hq' with hq
        have := hf.size
        rcases hat with e | e
        · exact .inl (by rw [e]; exact congrArg some hq)
        · exact .inr (by omega)⟩
/-- The kinds' words. -/
def kws : List ByteArray := [⟨#[43]⟩, ⟨#[45]⟩, ⟨#[42]⟩, ⟨#[47]⟩, ⟨#[109, 105, 110]⟩, ⟨#[109, 97, 120]⟩, ⟨#[112, 105, 99, 107]⟩]
theorem kws_at {k : Nat} (h : k < 7) : kws.getD k ByteArray.empty = ⟨(nameL ((k : Int) + 3)).toArray⟩ := by
  rcases (show k = 0 ∨ k = 1 ∨ k = 2 ∨ k = 3 ∨ k = 4 ∨ k = 5 ∨ k = 6 by omega) with rfl | rfl | rfl | rfl | rfl | rfl | rfl <;> rfl
/-- Where a word lies among them; -1: nowhere. -/
def atW (l : List UInt8) : Int := if kindW l = 0 then -1 else kindW l - 3
theorem kws_eq {k : Nat} (h : k < 7) (t : ByteArray) : kws.getD k ByteArray.empty = t ↔ kindW t.data.toList = (k : Int) + 3 := by
  rw [kws_at h, ← kindW_iff (by omega) (by omega)]
  constructor
  · rintro rfl
    rfl
  · intro e
    rw [e, ← baList t]
theorem idx_kws (t : ByteArray) : Lib.idxOfS (kws.take 7) t = atW t.data.toList := by
  have hb := kindW_bd t.data.toList
  by_cases h0 : kindW t.data.toList = 0
  · rw [atW, if_pos h0]
    exact Lib.idxOfS_miss kws 7 t fun j hj e => by
      have := (kws_eq hj t).1 e
      omega
  · rw [atW, if_neg h0]
    obtain ⟨k, hk⟩ : ∃ k : Nat, kindW t.data.toList = (k : Int) + 3 := ⟨(kindW t.data.toList - 3).toNat, by omega⟩
    rw [Lib.idxOfS_hit kws 7 k t (by omega) (Nat.le_refl _) ((kws_eq (by omega) t).2 hk) (fun j hj e => by
      have := (kws_eq (by omega) t).1 e
      omega), hk]
    omega
theorem iIndexK (g : Nat) (t : ByteArray) (w : World) (h : ∀ k : Nat, k < 7 → w.cell? ⟨g, k, none⟩ = some (strV (nameL ((k : Int) + 3)))) :
    Calls Tryz.prog 32 #[.slice (some ⟨g, 0, none⟩) 7 7, .string t] w fun e w' => e = .returned (.int .i64 (atW t.data.toList)) ∧ w' = w := by
  have k0 := iIndexS g 0 7 7 kws t w (Nat.le_refl _) (by omega) (fun j hj => by
    have hj7 : j < 7 := hj
    rw [Nat.zero_add, h j hj7, kws_at hj7])
  rw [idx_kws] at k0
  exact k0
theorem pre_v (l : List UInt8) : (∃ r, l = 118 :: r ∧ Lib.hasPrefix l [118] = true ∧ Lib.trimPrefix l [118] = r) ∨ ((∀ r, l ≠ 118 :: r) ∧ Lib.hasPrefix l [118] = false ∧ Lib.trimPrefix l [118] = l) := by
  cases l with
  | nil => exact .inr ⟨fun r e => (by cases e), rfl, rfl⟩
  | cons b r =>
    by_cases h : b = 118
    · subst h
      exact .inl ⟨r, rfl, by simp [Lib.hasPrefix, List.isPrefixOf], by simp [Lib.trimPrefix, Lib.hasPrefix, List.isPrefixOf]⟩
    · have h0 : Lib.hasPrefix (b :: r) [118] = false := by
        simp [Lib.hasPrefix, List.isPrefixOf]
        exact fun e => h e.symm
      exact .inr ⟨fun r' e => by injection e with e; exact h e, h0, by rw [Lib.trimPrefix, if_neg (by rw [h0]; decide)]⟩
theorem iCutV (t : ByteArray) (w : World) : Calls Tryz.prog 33 #[.string t, .string ⟨#[118]⟩] w fun e w' => e = .returned (.tuple #[.string ⟨(Lib.trimPrefix t.data.toList [118]).toArray⟩, .bool (Lib.hasPrefix t.data.toList [118])]) ∧ w' = w := iCutPrefix t ⟨#[118]⟩ w
theorem rdN_bad {f base : Nat} {x : List UInt8} {ws : List (List UInt8)} (h : cls x = .bad) : rdN (f + 1) (x :: ws) base = none := by rw [rdN, h]
theorem rdN_var {f base : Nat} {x : List UInt8} {ws : List (List UInt8)} {d : Int} (h : cls x = .var d) : rdN (f + 1) (x :: ws) base = some ([] ++ [⟨2, d, 0, 0, 0, 0⟩], ws) := by rw [rdN, h]; rfl
theorem rdN_frac {f base : Nat} {x : List UInt8} {ws : List (List UInt8)} {q : Fr} (h : cls x = .frac q) : rdN (f + 1) (x :: ws) base = some ([] ++ [⟨1, 0, 0, 0, q.1, q.2⟩], ws) := by rw [rdN, h]; rfl
/-- The state of the reader, its node in the box nb. -/
structure StN (base rb nb : Nat) (w0 w u : World) (A : Option Addr) (r : List (List UInt8)) (c : Nat) (v v2 : Value) (ys : List No) (cs : Array Value) : Prop where
  cap : r.length ≤ c
  box : BoxR u base rb A r.length c v2 ys
  words : WdR u base A r
  node : Whole u nb 46 cs
  fr : FR rb w u v v2
  apart : v2.ownBlock ≠ some nb
  ne : nb ≠ rb
  hnb : base ≤ nb
  hrb : base ≤ rb
  new : w.heap.size ≤ nb
  below : Below base w0 u
theorem StN.base_le {base rb nb c : Nat} {w0 w u : World} {A : Option Addr} {r : List (List UInt8)} {v v2 : Value} {ys : List No} {cs : Array Value} (h : StN base rb nb w0 w u A r c v v2 ys cs) : base ≤ u.heap.size := Nat.le_trans h.hnb (Nat.le_of_lt h.node.lt)
theorem StN.put {base rb nb c : Nat} {w0 w u : World} {A : Option Addr} {r : List (List UInt8)} {v v2 : Value} {ys : List No} {cs : Array Value} (h : StN base rb nb w0 w u A r c v v2 ys cs) (i : Nat) (x : Value) : StN base rb nb w0 w (u.setCell ⟨nb, i, none⟩ x) A r c v v2 ys (cs.setIfInBounds i x) :=
  ⟨h.cap, h.box.far h.ne h.apart x, h.words.below ((Below.refl base u).setCell h.hnb x), h.node.put i x, h.fr.far h.new x, h.apart, h.ne, h.hnb, h.hrb, h.new, h.below.setCell h.hnb x⟩
theorem StN.under {base rb nb c : Nat} {w0 w u u' : World} {A : Option Addr} {r : List (List UInt8)} {v v2 : Value} {ys : List No} {cs : Array Value} (h : StN base rb nb w0 w u A r c v v2 ys cs) (hb : Below u.heap.size u u') : StN base rb nb w0 w u' A r c v v2 ys cs :=
  ⟨h.cap, h.box.below hb, h.words.below (hb.mono h.base_le), h.node.below hb h.node.lt, h.fr.trans (FR.of_below hb rb v2), h.apart, h.ne, h.hnb, h.hrb, h.new, h.below.trans (hb.mono h.base_le)⟩
theorem StN.cast {base rb nb c : Nat} {w0 w u : World} {A : Option Addr} {r : List (List UInt8)} {v v2 : Value} {ys ys' : List No} {cs cs' : Array Value} (h : StN base rb nb w0 w u A r c v v2 ys cs) (e : cs = cs') (e' : ys = ys') : StN base rb nb w0 w u A r c v v2 ys' cs' := by subst e e'; exact h
theorem StN.grown {base rb nb c p : Nat} {w0 w u u' : World} {A : Option Addr} {r : List (List UInt8)} {v v2 : Value} {ys : List No} {cs : Array Value} (h : StN base rb nb w0 w u A r c v v2 ys cs) (hg : u.grownBy u' (some p)) (h1 : p ≠ rb) (h2 : p ≠ nb) (h3 : v2.ownBlock ≠ some p) (h4 : w.heap.size ≤ p) (h5 : base ≤ p) : StN base rb nb w0 w u' A r c v v2 ys cs :=
  have hb := below_of_grown hg h5 h.base_le
  ⟨h.cap, ⟨h.box.1.grown hg (fun e => h1 (by injection e with e; exact e.symm)), h.box.2.kept (row := some p) hg (.inr h3)⟩, h.words.below hb, h.node.grown hg (fun e => h2 (by injection e with e; exact e.symm)),
    ⟨hg.os.trans h.fr.os, hg.tape.trans h.fr.tape, hg.output.trans h.fr.output, Nat.le_trans h.fr.size hg.size, fun k hk k1 k2 => (hg.block k (Nat.lt_of_lt_of_le hk h.fr.size) (fun e => by injection e with e; omega)).trans (h.fr.block k hk k1 k2), h.fr.own⟩, h.apart, h.ne, h.hnb, h.hrb, h.new, h.below.trans hb⟩
/-- A reading of operands. -/
theorem StN.call {base rb nb c c' : Nat} {w0 w u u' : World} {A A' : Option Addr} {r r' : List (List UInt8)} {v v2 v3 : Value} {ys n1 : List No} {cs : Array Value} (h : StN base rb nb w0 w u A r c v v2 ys cs) (hf : FR rb u u' v2 v3) (hb : BoxR u' base rb A' r'.length c' v3 (ys ++ n1)) (hc : r'.length ≤ c') (hw : WdR u' base A' r') : StN base rb nb w0 w u' A' r' c' v v3 (ys ++ n1) cs :=
  ⟨hc, hb, hw, hf.whole h.node h.ne h.apart, h.fr.trans hf, fun e => by
    rcases hf.own nb e with k | k
    · exact h.apart k
    · have := h.node.lt; omega, h.ne, h.hnb, h.hrb, h.new, h.below.trans (hf.below h.hrb (fun q hq => (h.box.2.lt q hq).1) h.base_le)⟩
/-- What the reader has ahead of its last append. -/
def Mid1 (base rb nb f : Nat) (w0 w : World) (v : Value) (x : List UInt8) (wt : List (List UInt8)) (xs : List No) (s8 : Value) (wx : World) : Prop :=
  ∃ (b : Bool) (s : No) (ns : List No) (r : List (List UInt8)) (A2 : Option Addr) (c2 : Nat) (v2 : Value), s8 = .bool b ∧ Hid (rdN (f + 1) (x :: wt) xs.length = match b with | true => some (ns ++ [s], r) | false => none) ∧ StN base rb nb w0 w wx A2 r c2 v v2 (xs ++ ns) s.cells.toArray ∧ (xs ++ ns).length ≤ 100
theorem cells_put {kw x : Int} : ∀ {ps : List Int} {j : Nat}, ps.length = j → j ≤ 2 → (#[.int .i64 kw, .int .i64 (ps.getD 0 0), .int .i64 (ps.getD 1 0), .int .i64 (ps.getD 2 0), .int .i64 0, .int .i64 0] : Array Value).setIfInBounds (j + 1) (.int .i64 x) = #[.int .i64 kw, .int .i64 ((ps ++ [x]).getD 0 0), .int .i64 ((ps ++ [x]).getD 1 0), .int .i64 ((ps ++ [x]).getD 2 0), .int .i64 0, .int .i64 0]
  | [], _, rfl, _ => rfl
  | [_], _, rfl, _ => rfl
  | [_, _], _, rfl, _ => rfl
  | _ :: _ :: _ :: _, _, rfl, h => by simp at h
theorem cell_at {kw a b c : Int} {j : Nat} (h : j ≤ 2) : ∃ z : Int, (#[.int .i64 kw, .int .i64 a, .int .i64 b, .int .i64 c, .int .i64 0, .int .i64 0] : Array Value)[j + 1]? = some (.int .i64 z) := by
  rcases (show j = 0 ∨ j = 1 ∨ j = 2 by omega) with rfl | rfl | rfl
  · exact ⟨a, rfl⟩
  · exact ⟨b, rfl⟩
  · exact ⟨c, rfl⟩
theorem ptr_inf : (Tryz.prog.info? 79).map (fun i => (i.zero, i.size, i.bytes)) = some (some (.pointer none), 1, 8) := by kernel_rfl
theorem own_two (w : World) (base : Nat) (h : base ≤ w.heap.size) (x y : Value) : (w.alloc (.cells #[x, y] 79)).ownsRow base 79 1 (.slice (some ⟨w.heap.size, 0, none⟩) 2 2) 2 [x, y] :=
  ⟨by simp, .inr ⟨w.heap.size, 2, #[x, y], rfl, h, Whole.new w 79 #[x, y], Nat.le_refl _, by unfold maxLen; omega, by simp, by simp⟩⟩
/-- The places of a node's operands: m pointers into the node nb. -/
def Plc (w : World) (gp nb m : Nat) : Prop := ∃ cs : Array Value, Whole w gp 79 cs ∧ ∀ j, j < m → cs[j]? = some (.pointer (some ⟨nb, j + 1, none⟩))
theorem Plc.lt {w : World} {gp nb m : Nat} (h : Plc w gp nb m) : gp < w.heap.size := by
  obtain ⟨cs, h, _⟩ := h
  exact h.lt
theorem Plc.cell {w : World} {gp nb m j : Nat} (h : Plc w gp nb m) (hj : j < m) : w.cell? ⟨gp, j, none⟩ = some (.pointer (some ⟨nb, j + 1, none⟩)) := by
  obtain ⟨cs, h, hc⟩ := h
  rw [h.cell]
  exact hc j hj
theorem Plc.fr {w w' : World} {gp nb m ob : Nat} {v v' : Value} (h : Plc w gp nb m) (hf : FR ob w w' v v') (h1 : gp ≠ ob) (h2 : v.ownBlock ≠ some gp) : Plc w' gp nb m := by
  obtain ⟨cs, h, hc⟩ := h
  exact ⟨cs, hf.whole h h1 h2, hc⟩
theorem Plc.far {w : World} {gp nb m : Nat} (h : Plc w gp nb m) {g i : Nat} (hg : gp ≠ g) (x : Value) : Plc (w.setCell ⟨g, i, none⟩ x) gp nb m := by
  obtain ⟨cs, h, hc⟩ := h
  exact ⟨cs, h.far (p := ⟨g, i, none⟩) hg x, hc⟩
theorem Plc.below {w w' : World} {gp nb m : Nat} (h : Plc w gp nb m) (hb : Below w.heap.size w w') : Plc w' gp nb m := by
  obtain ⟨cs, h, hc⟩ := h
  exact ⟨cs, h.below hb h.lt, hc⟩
theorem Plc.two (w : World) (nb : Nat) : Plc (w.alloc (.cells #[.pointer (some ⟨nb, 1, none⟩), .pointer (some ⟨nb, 2, none⟩)] 79)) w.heap.size nb 2 :=
  ⟨_, Whole.new w 79 _, fun j hj => by rcases (show j = 0 ∨ j = 1 by omega) with rfl | rfl <;> rfl⟩
theorem Plc.of_own {w : World} {base gp cap nb : Nat} (h : w.ownsRow base 79 1 (.slice (some ⟨gp, 0, none⟩) 3 cap) 3 [.pointer (some ⟨nb, 1, none⟩), .pointer (some ⟨nb, 2, none⟩), .pointer (some ⟨nb, 3, none⟩)]) : Plc w gp nb 3 := by
  have h' := h.2
  rcases h' with ⟨h, _⟩ | ⟨g, cap', cur, hv, _, hh, _, _, _, h4⟩
  · cases h
  · injection hv with hv1 _ hv2
    injection hv1 with hv1
    injection hv1 with hv1
    subst hv1
    refine ⟨cur, hh, fun j hj => ?_⟩
    have h5 : cur.toList[j]? = ([.pointer (some ⟨nb, 1, none⟩), .pointer (some ⟨nb, 2, none⟩), .pointer (some ⟨nb, 3, none⟩)] : List Value)[j]? := by
      rw [← h4, List.getElem?_take, if_pos (by omega)]
    rw [← Array.getElem?_toList, h5]
    rcases (show j = 0 ∨ j = 1 ∨ j = 2 by omega) with rfl | rfl | rfl <;> rfl
end Go.Proofs.YtanpmbiblibgfaaGreatDoor
