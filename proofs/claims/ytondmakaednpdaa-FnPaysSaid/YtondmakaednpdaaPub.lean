/- Publish of the reference, at good points. Conditions: the points can be read. -/
import Derived.Test.YtondmakaednpdaaAddF
import Derived.Test.YtondmakaednpdaaReval
import Derived.Deep.DeepCutAuto
import Derived.Deep.AppendLies
namespace Go.Proofs.Ytondmakaednpdaa
open Go.RowKit

theorem Whole.new' {w : World} {t : TypeId} {cs : Array Value} {g : Nat} (hg : g = w.heap.size) : Whole (w.alloc (.cells cs t)) g t cs := by subst hg; exact Whole.new w t cs
theorem own_empty' {w : World} {base : Nat} {e : TypeId} {size g : Nat} (hg : g = w.heap.size) (h : base ≤ w.heap.size) : (w.alloc (.cells #[] e)).ownsRow base e size (.slice (some ⟨g, 0, none⟩) 0 0) 0 [] := by subst hg; exact own_empty w base e size h
theorem ownsRow_drew' {w : World} {base : Nat} {e : TypeId} {size n : Nat} {v : Value} {xs : List Value} (h : w.ownsRow base e size v n xs) : w.drew.ownsRow base e size v n xs := h
theorem Whole.news {w : World} {g : Nat} {t : TypeId} {xs : List Value} (h : Whole w g t xs.toArray) : ∀ j u, xs[j]? = some u → w.cell? ((⟨g, 0, none⟩ : Addr).add j) = some u := by
  intro j u hj
  have ha : Addr.add ⟨g, 0, none⟩ j = ⟨g, j, none⟩ := by unfold Addr.add; split <;> simp_all
  rw [ha, h.cell j, List.getElem?_toArray, hj]
theorem step_append_own_none {P : Program} {w : World} {ops : Array Oper} {o : Oper} {a : Act} {K : Act → World → Prop} {Q : Exit → Act → World → Prop} {E : Prop} (hgd : o.guard = none) (s x : Operand) (t : TypeId)
    (ho : o.op = .call { callee := .builtin .append, args := #[s, x], argTypes := #[t, t] })
    (base : Nat) (e : TypeId) (i : TypeInfo) (size : Nat) (ht : P.underlying t = some (.slice e)) (hi : P.info? e = some i)
    (v : Value) (n : Nat) (xs : List Value) (hs : a.eval s = v) (hown : w.ownsRow base e size v n xs) (hx : a.eval x = .slice none 0 0)
    (h : K (a.put o.dst v) w) : if Region.wanted o (yielded ops a.tmps) = true then Oper.wp P o a w K Q else E := by
  have hw : Region.wanted o (yielded ops a.tmps) = true := by simp [Region.wanted, hgd]
  rw [if_pos hw]
  have hrun := run_append_owned_none (P := P) (w := w) base t o.type e i size ht hi v n xs hown
  unfold Oper.wp
  simp [execOp, ho, resolve, invoke, builtin, hs, hx, hrun, Result.andThen]
  exact h
theorem OwPo.range {w : World} {base n : Nat} {v : Value} {L : Nat → Po} (h : w.ownsRow base 45 3 v n (((List.range n).map L).flatMap Po.cells)) : OwR w base 45 3 v n (poAt L) :=
  (OwR.of_own h).congr fun j hj => by rw [List.getD_eq_getElem?_getD, po_flat L hj]; rfl

set_option maxRecDepth 8000 in
set_option maxHeartbeats 6400000 in
theorem sPublishSome (w : World) (ad : Addr) (n c : Nat) (P P' : Nat → Po) (h : RdPo w w.heap.size (some ad) n P) (hn0 : 0 < n) (hn : n ≤ 100) (hP : ∀ i, i < n → P' i = P i) (hok : seOk n P = true) (hok' : seOk (n + 1) P' = true) :
    Calls Try.prog 35 #[.agg #[.slice (some ad) n c], .agg #[.int .i64 (P' n).m, .int .i64 (P' n).n, .int .i64 (P' n).v]] w fun e w' => ∃ (B : Option Addr) (cc : Nat), e = .returned (.tuple #[.agg #[.slice B (n + 1) cc], .bool true]) ∧ OwR w' w.heap.size 45 3 (.slice B (n + 1) cc) (n + 1) (poAt P') ∧ Below w.heap.size w w' := by
  obtain ⟨i0, hi, hz0, hz1, hz2⟩ := info_parts po_inf
  have hbb : Below w.heap.size w (((w.alloc (.cells #[.slice (some ad) n c] 29)).alloc (.cells #[.int .i64 (P' n).m, .int .i64 (P' n).n, .int .i64 (P' n).v] 45)).alloc (.cells #[.slice none 0 0] 29)) := (by (repeat (first | (with_reducible exact Below.refl _ _) | (with_reducible assumption) | (with_reducible refine Below.drew ?_) | (with_reducible refine below_drewN ?_ _) | ((with_reducible refine Below.setCell ?_ ?_ _); rotate_left; focus (first | (simp; done) | omega | (simp; omega))) | ((with_reducible refine Below.alloc ?_ ?_ _); rotate_left; focus (first | exact Nat.le_refl _ | omega | (simp; done) | (simp; omega))))))
  have hown := own_empty (((w.alloc (.cells #[.slice (some ad) n c] 29)).alloc (.cells #[.int .i64 (P' n).m, .int .i64 (P' n).n, .int .i64 (P' n).v] 45)).alloc (.cells #[.slice none 0 0] 29)) (w.heap.size + 3) 45 3 (by simp)
  simp only [World.size_alloc] at hown
  have hh := h.below (hbb.alloc hbb.size (.cells #[] 45))
  go_enter Try.func35, Try.ntmps35
  go_wp2_with (at_builtin; refine wpList_append_own_at _ rfl _ _ 27 rfl (w.heap.size + 3) 45 i0 (.agg #[.int .i64 0, .int .i64 0, .int .i64 0]) 3 24 Try.underlying27 hi hz0 hz1 hz2 rfl (by decide) _ _ _ rfl hown ad n c (((List.range n).map P).flatMap Po.cells) rfl ?c1 ?c2 ?c3 ?c4 ?c5 ?c6 ?_)
  case c1 => exact po_flat_len P n
  case c2 => exact hh.news
  case c3 => exact po_one P n
  case c4 => unfold maxLen; omega
  case c5 => omega
  case c6 => first | (simp; done) | (simp; omega)
  intro v' w1 hown1 hg1 _ hat
  obtain ⟨B1, cc1, rfl⟩ := (OwR.of_own hown1).form
  have t0 : w1.cell? ⟨w.heap.size, 0, none⟩ = some (.slice (some ad) n c) := hg1.cell (by simp [go_sem]) (by simp [Value.ownBlock] <;> omega)
  have p0 : w1.cell? ⟨w.heap.size + 1, 0, none⟩ = some (.int .i64 (P' n).m) := hg1.cell (by simp [go_sem]) (by simp [Value.ownBlock] <;> omega)
  have p1 : w1.cell? ⟨w.heap.size + 1, 1, none⟩ = some (.int .i64 (P' n).n) := hg1.cell (by simp [go_sem]) (by simp [Value.ownBlock] <;> omega)
  have p2 : w1.cell? ⟨w.heap.size + 1, 2, none⟩ = some (.int .i64 (P' n).v) := hg1.cell (by simp [go_sem]) (by simp [Value.ownBlock] <;> omega)
  have r0 : w1.cell? ⟨w.heap.size + 1 + 1, 0, none⟩ = some (.slice none 0 0) := hg1.cell (by simp [go_sem]) (by simp [Value.ownBlock] <;> omega)
  have rf : w1.frozen? ⟨w.heap.size + 1 + 1, 0, none⟩ = false := by
    rw [World.frozen?_of_block (hg1.block _ (by first | (simp; done) | (simp; omega)) (by simp [Value.ownBlock] <;> omega))]
    simp [go_sem]
  have hs1 : w.heap.size + 4 ≤ w1.heap.size := by have := hg1.size; simp at this; omega
  have hB1 : Below w.heap.size w w1 := (hbb.alloc hbb.size _).grown hg1 (by simp; omega) (fun q hq => by simp [Value.ownBlock] at hq; omega)
  clear hg1 hat hh hown1 hown
  obtain ⟨u, hu⟩ : ∃ u, u = (w1.alloc (.cells #[.slice B1 n cc1] 29)) := ⟨_, rfl⟩
  have hbu : Below w1.heap.size w1 u := by rw [hu]; exact (Below.refl _ _).alloc (Nat.le_refl _) _
  obtain ⟨hcu, hfu⟩ := keepc hbu
  have t0u : u.cell? ⟨w.heap.size, 0, none⟩ = some (.slice (some ad) n c) := by rw [hcu _ _ (by omega)]; exact t0
  have p0u : u.cell? ⟨w.heap.size + 1, 0, none⟩ = some (.int .i64 (P' n).m) := by rw [hcu _ _ (by omega)]; exact p0
  have p1u : u.cell? ⟨w.heap.size + 1, 1, none⟩ = some (.int .i64 (P' n).n) := by rw [hcu _ _ (by omega)]; exact p1
  have p2u : u.cell? ⟨w.heap.size + 1, 2, none⟩ = some (.int .i64 (P' n).v) := by rw [hcu _ _ (by omega)]; exact p2
  have r0u : u.cell? ⟨w.heap.size + 1 + 1, 0, none⟩ = some (.slice none 0 0) := by rw [hcu _ _ (by omega)]; exact r0
  have rfu : u.frozen? ⟨w.heap.size + 1 + 1, 0, none⟩ = false := by rw [hfu _ _ (by omega)]; exact rf
  have hsu : w.heap.size + 4 ≤ u.heap.size := by rw [hu]; simp; try omega
  have hBu : Below w.heap.size w u := by rw [hu]; exact hB1.alloc hB1.size _
  go_upto_region 2 with fail
  rw [← hu]
  clear hu t0 p0 p1 p2 r0 rf hs1 hB1 hbu hcu hfu
  have hru := h.below hBu
  have KU : ∀ v, Below (w.heap.size + 3) u v → (fun w' => w'.cell? ⟨w.heap.size, 0, none⟩ = some (.slice (some ad) n c) ∧ w'.cell? ⟨w.heap.size + 1, 0, none⟩ = some (.int .i64 (P' n).m) ∧ w'.cell? ⟨w.heap.size + 1, 1, none⟩ = some (.int .i64 (P' n).n) ∧ w'.cell? ⟨w.heap.size + 1, 2, none⟩ = some (.int .i64 (P' n).v) ∧ w'.cell? ⟨w.heap.size + 1 + 1, 0, none⟩ = some (.slice none 0 0) ∧ w'.frozen? ⟨w.heap.size + 1 + 1, 0, none⟩ = false ∧ w.heap.size + 3 < w'.heap.size ∧ Below w.heap.size w w') v := fun v hb => ⟨((keepc hb).1 _ _ (by omega)).trans t0u, ((keepc hb).1 _ _ (by omega)).trans p0u, ((keepc hb).1 _ _ (by omega)).trans p1u, ((keepc hb).1 _ _ (by omega)).trans p2u, ((keepc hb).1 _ _ (by omega)).trans r0u, ((keepc hb).2 _ _ (by omega)).trans rfu, by have := hb.size; omega, hBu.trans (hb.mono (by omega))⟩
  have END : ∀ (W : World) (q : Nat) (B : Option Addr) (cc : Nat), Below (w.heap.size + 3) u W → W.cell? ⟨q, 0, none⟩ = some (.slice B (n + 1) cc) → OwR W (w.heap.size + 3) 45 3 (.slice B (n + 1) cc) (n + 1) (poAt P') → q < W.heap.size → (fun (s7 : Value) (wx : World) => ∃ (q : Nat) (B : Option Addr) (cc : Nat), s7 = .pointer (some ⟨q, 0, none⟩) ∧ wx.cell? ⟨q, 0, none⟩ = some (.slice B (n + 1) cc) ∧ OwR wx (w.heap.size + 3) 45 3 (.slice B (n + 1) cc) (n + 1) (poAt P') ∧ wx.cell? ⟨w.heap.size, 0, none⟩ = some (.slice (some ad) n c) ∧ wx.cell? ⟨w.heap.size + 1 + 1, 0, none⟩ = some (.slice none 0 0) ∧ wx.frozen? ⟨w.heap.size + 1 + 1, 0, none⟩ = false ∧ q < wx.heap.size ∧ w.heap.size + 3 < wx.heap.size ∧ Below w.heap.size w wx) (.pointer (some ⟨q, 0, none⟩)) W := fun W q B cc hb hc ho hq => ⟨q, B, cc, rfl, hc, ho, (KU W hb).1, (KU W hb).2.2.2.2.1, (KU W hb).2.2.2.2.2.1, hq, (KU W hb).2.2.2.2.2.2.1, (KU W hb).2.2.2.2.2.2.2⟩
  go_cut [7] (fun s7 wx => ∃ (q : Nat) (B : Option Addr) (cc : Nat), s7 = .pointer (some ⟨q, 0, none⟩) ∧ wx.cell? ⟨q, 0, none⟩ = some (.slice B (n + 1) cc) ∧ OwR wx (w.heap.size + 3) 45 3 (.slice B (n + 1) cc) (n + 1) (poAt P') ∧ wx.cell? ⟨w.heap.size, 0, none⟩ = some (.slice (some ad) n c) ∧ wx.cell? ⟨w.heap.size + 1 + 1, 0, none⟩ = some (.slice none 0 0) ∧ wx.frozen? ⟨w.heap.size + 1 + 1, 0, none⟩ = false ∧ q < wx.heap.size ∧ w.heap.size + 3 < wx.heap.size ∧ Below w.heap.size w wx)
  case first =>
    go_region_held3 (fun w' => w'.cell? ⟨w.heap.size, 0, none⟩ = some (.slice (some ad) n c) ∧ w'.cell? ⟨w.heap.size + 1, 0, none⟩ = some (.int .i64 (P' n).m) ∧ w'.cell? ⟨w.heap.size + 1, 1, none⟩ = some (.int .i64 (P' n).n) ∧ w'.cell? ⟨w.heap.size + 1, 2, none⟩ = some (.int .i64 (P' n).v) ∧ w'.cell? ⟨w.heap.size + 1 + 1, 0, none⟩ = some (.slice none 0 0) ∧ w'.frozen? ⟨w.heap.size + 1 + 1, 0, none⟩ = false ∧ w.heap.size + 3 < w'.heap.size ∧ Below w.heap.size w w') (first | (with_reducible assumption) | exact KU _ (by (repeat (first | (with_reducible exact Below.refl _ _) | (with_reducible assumption) | (with_reducible refine Below.drew ?_) | (with_reducible refine below_drewN ?_ _) | ((with_reducible refine Below.setCell ?_ ?_ _); rotate_left; focus (first | (simp; done) | omega | (simp; omega))) | ((with_reducible refine Below.alloc ?_ ?_ _); rotate_left; focus (first | exact Nat.le_refl _ | omega | (simp; done) | (simp; omega)))))))
      (first
      | ((with_reducible show ite (Region.wanted ⟨some 19, _, _, _, _, _⟩ _ = true) _ _); refine step_append_lies _ (by rfl) (.tmp 16) (.tmp 18) 27 (by rfl) (w.heap.size + 3) 45 i0 _ 3 24 Try.underlying27 hi hz0 hz1 hz2 rfl (by omega) (.slice (some ⟨_, 0, none⟩) n _) n (((List.range n).map P).flatMap Po.cells) (by rfl) ?_ _ 1 1 [.int .i64 (P' n).m, .int .i64 (P' n).n, .int .i64 (P' n).v] (by rfl) (by rfl) ?_ (by simp [Value.oneCell']) (by omega) (by unfold maxLen; omega) (by omega) ?_ _ rfl ?_; (focus ((repeat (first | (with_reducible exact own6) | (with_reducible refine ownsRow_drew' ?_) | (with_reducible refine World.ownsRow.alloc ?_ _))); done)); (focus (refine Whole.news (t := 45) ?_; (repeat (first | (with_reducible exact pw60) | (with_reducible exact pw61) | (with_reducible exact pw62) | ((with_reducible refine Whole.new' ?_); focus (simp; done)) | (with_reducible refine Whole.drew ?_) | (with_reducible refine Whole.alloc ?_ _))); done)); (focus (first | (simp; done) | omega | (simp; omega))); intro g7 c7 w7 own7 hg7 hat7 hlt7; have hb7 : Below (w.heap.size + 3) u w7 := (by refine Below.grown ?_ hg7 (by first | omega | (simp; omega)) (fun q hq => (by simp [Value.ownBlock] at hq; omega)); (repeat (first | (with_reducible exact Below.refl _ _) | (with_reducible assumption) | (with_reducible refine Below.drew ?_) | (with_reducible refine below_drewN ?_ _) | ((with_reducible refine Below.setCell ?_ ?_ _); rotate_left; focus (first | (simp; done) | omega | (simp; omega))) | ((with_reducible refine Below.alloc ?_ ?_ _); rotate_left; focus (first | exact Nat.le_refl _ | omega | (simp; done) | (simp; omega)))))); have hS7 := KU _ hb7; have ow7 : OwR w7 (w.heap.size + 3) 45 3 (.slice (some ⟨g7, 0, none⟩) (n + 1) c7) (n + 1) (poAt P') := OwPo.range (by rw [← range_more (f := Po.cells) hP]; exact own7); (try (refine (have bw70 : Whole w7 (u.heap.size) 29 #[.slice none 0 0] := ?_; ?_); focus (refine Whole.grown ?_ hg7 ?_; (focus ((repeat (first | (with_reducible exact bw60) | (with_reducible refine Whole.drew ?_) | (with_reducible refine Whole.alloc ?_ _))); done)); (focus ((intro e; exact own_apart own6 bw60 (by decide) e.symm)))))); (try (refine (have bw71 : Whole w7 (u.heap.size + 1) 29 #[.slice none 0 0] := ?_; ?_); focus (refine Whole.grown ?_ hg7 ?_; (focus ((repeat (first | (with_reducible exact bw61) | (with_reducible refine Whole.drew ?_) | (with_reducible refine Whole.alloc ?_ _))); done)); (focus ((intro e; exact own_apart own6 bw61 (by decide) e.symm)))))); (try (refine (have bw72 : Whole w7 (u.heap.size + 1 + 1) 29 #[.slice none 0 0] := ?_; ?_); focus (refine Whole.grown ?_ hg7 ?_; (focus ((repeat (first | (with_reducible exact bw62) | (with_reducible refine Whole.drew ?_) | (with_reducible refine Whole.alloc ?_ _))); done)); (focus ((intro e; exact own_apart own6 bw62 (by decide) e.symm)))))); (try (refine (have bv70 : Whole w7 (w6.heap.size) 29 #[.slice none 0 0] := ?_; ?_); focus (refine Whole.grown ?_ hg7 ?_; (focus ((repeat (first | ((with_reducible refine Whole.new' ?_); focus (simp; done)) | (with_reducible refine Whole.drew ?_) | (with_reducible refine Whole.alloc ?_ _))); done)); (focus ((intro e; simp [Value.ownBlock] at e; omega)))))); (try (refine (have bv71 : Whole w7 (w6.heap.size + 1) 29 #[.slice none 0 0] := ?_; ?_); focus (refine Whole.grown ?_ hg7 ?_; (focus ((repeat (first | ((with_reducible refine Whole.new' ?_); focus (simp; done)) | (with_reducible refine Whole.drew ?_) | (with_reducible refine Whole.alloc ?_ _))); done)); (focus ((intro e; simp [Value.ownBlock] at e; omega)))))); (try (have lz7 := bw70.lt; have bc7 := bw70.cell 0; have bf7 := bw70.free 0; simp at bc7)); (try (have lz7 := bw71.lt; have bc7 := bw71.cell 0; have bf7 := bw71.free 0; simp at bc7)); (try (have lz7 := bw72.lt; have bc7 := bw72.cell 0; have bf7 := bw72.free 0; simp at bc7)); (try (have lz7 := bv70.lt; have bc7 := bv70.cell 0; have bf7 := bv70.free 0; simp at bc7)); (try (have lz7 := bv71.lt; have bc7 := bv71.cell 0; have bf7 := bv71.free 0; simp at bc7)))
      | ((with_reducible show ite (Region.wanted ⟨some 16, _, _, _, _, _⟩ _ = true) _ _); refine step_append_lies _ (by rfl) (.tmp 13) (.tmp 15) 27 (by rfl) (w.heap.size + 3) 45 i0 _ 3 24 Try.underlying27 hi hz0 hz1 hz2 rfl (by omega) (.slice (some ⟨_, 0, none⟩) 0 _) 0 [] (by rfl) ?_ ad n c (((List.range n).map P).flatMap Po.cells) (by rfl) (po_flat_len P n) ?_ (po_one P n) hn0 (by unfold maxLen; omega) (by omega) ?_ _ rfl ?_; (focus ((repeat (first | ((with_reducible refine own_empty' ?_ ?_); (focus (simp; done)); (focus (first | omega | (simp; omega)))) | (with_reducible refine ownsRow_drew' ?_) | (with_reducible refine World.ownsRow.alloc ?_ _))); done)); (focus (refine RdPo.news (B := w.heap.size) (hru.below (w' := _) ?_); (repeat (first | (with_reducible exact Below.refl _ _) | (with_reducible assumption) | (with_reducible refine Below.drew ?_) | (with_reducible refine below_drewN ?_ _) | ((with_reducible refine Below.setCell ?_ ?_ _); rotate_left; focus (first | (simp; done) | omega | (simp; omega))) | ((with_reducible refine Below.alloc ?_ ?_ _); rotate_left; focus (first | exact Nat.le_refl _ | omega | (simp; done) | (simp; omega))))))); (focus (first | (simp; done) | omega | (simp; omega))); intro g6 c6 w6 own6 hg6 hat6 hlt6; simp only [Nat.zero_add, List.nil_append] at own6 ⊢; have hge6 : w.heap.size + 3 ≤ g6 := (own6.lt g6 rfl).1; have hb6 : Below (w.heap.size + 3) u w6 := (by refine Below.grown ?_ hg6 (by first | omega | (simp; omega)) (fun q hq => (by simp [Value.ownBlock] at hq; omega)); (repeat (first | (with_reducible exact Below.refl _ _) | (with_reducible assumption) | (with_reducible refine Below.drew ?_) | (with_reducible refine below_drewN ?_ _) | ((with_reducible refine Below.setCell ?_ ?_ _); rotate_left; focus (first | (simp; done) | omega | (simp; omega))) | ((with_reducible refine Below.alloc ?_ ?_ _); rotate_left; focus (first | exact Nat.le_refl _ | omega | (simp; done) | (simp; omega)))))); have hS6 := KU _ hb6; (try (refine (have pw60 : Whole w6 (u.heap.size) 45 #[.int .i64 (P' n).m, .int .i64 (P' n).n, .int .i64 (P' n).v] := ?_; ?_); focus (refine Whole.grown ?_ hg6 ?_; (focus ((repeat (first | ((with_reducible refine Whole.new' ?_); focus (simp; done)) | (with_reducible refine Whole.drew ?_) | (with_reducible refine Whole.alloc ?_ _))); done)); (focus (first | (simp [Value.ownBlock]; done) | (simp [Value.ownBlock]; omega)))))); (try (refine (have pw61 : Whole w6 (u.heap.size + 1) 45 #[.int .i64 (P' n).m, .int .i64 (P' n).n, .int .i64 (P' n).v] := ?_; ?_); focus (refine Whole.grown ?_ hg6 ?_; (focus ((repeat (first | ((with_reducible refine Whole.new' ?_); focus (simp; done)) | (with_reducible refine Whole.drew ?_) | (with_reducible refine Whole.alloc ?_ _))); done)); (focus (first | (simp [Value.ownBlock]; done) | (simp [Value.ownBlock]; omega)))))); (try (refine (have pw62 : Whole w6 (u.heap.size + 1 + 1) 45 #[.int .i64 (P' n).m, .int .i64 (P' n).n, .int .i64 (P' n).v] := ?_; ?_); focus (refine Whole.grown ?_ hg6 ?_; (focus ((repeat (first | ((with_reducible refine Whole.new' ?_); focus (simp; done)) | (with_reducible refine Whole.drew ?_) | (with_reducible refine Whole.alloc ?_ _))); done)); (focus (first | (simp [Value.ownBlock]; done) | (simp [Value.ownBlock]; omega)))))); (try (refine (have bw60 : Whole w6 (u.heap.size) 29 #[.slice none 0 0] := ?_; ?_); focus (refine Whole.grown ?_ hg6 ?_; (focus ((repeat (first | ((with_reducible refine Whole.new' ?_); focus (simp; done)) | (with_reducible refine Whole.drew ?_) | (with_reducible refine Whole.alloc ?_ _))); done)); (focus (first | (simp [Value.ownBlock]; done) | (simp [Value.ownBlock]; omega)))))); (try (refine (have bw61 : Whole w6 (u.heap.size + 1) 29 #[.slice none 0 0] := ?_; ?_); focus (refine Whole.grown ?_ hg6 ?_; (focus ((repeat (first | ((with_reducible refine Whole.new' ?_); focus (simp; done)) | (with_reducible refine Whole.drew ?_) | (with_reducible refine Whole.alloc ?_ _))); done)); (focus (first | (simp [Value.ownBlock]; done) | (simp [Value.ownBlock]; omega)))))); (try (refine (have bw62 : Whole w6 (u.heap.size + 1 + 1) 29 #[.slice none 0 0] := ?_; ?_); focus (refine Whole.grown ?_ hg6 ?_; (focus ((repeat (first | ((with_reducible refine Whole.new' ?_); focus (simp; done)) | (with_reducible refine Whole.drew ?_) | (with_reducible refine Whole.alloc ?_ _))); done)); (focus (first | (simp [Value.ownBlock]; done) | (simp [Value.ownBlock]; omega))))))))
    all_goals go_wp2_with fail
    all_goals go_meet
    all_goals refine END _ _ (some ⟨g7, 0, none⟩) c7 ?_ ?_ ?_ ?_
    all_goals first | (with_reducible assumption) | ((repeat (first | (with_reducible exact Below.refl _ _) | (with_reducible assumption) | (with_reducible refine Below.drew ?_) | (with_reducible refine below_drewN ?_ _) | ((with_reducible refine Below.setCell ?_ ?_ _); rotate_left; focus (first | (simp; done) | omega | (simp; omega))) | ((with_reducible refine Below.alloc ?_ ?_ _); rotate_left; focus (first | exact Nat.le_refl _ | omega | (simp; done) | (simp; omega))))); done) | (simp [go_sem, *]; done) | omega | (simp; omega) | exact ow7.all ((Below.refl _ _).alloc (Nat.le_refl _) _) | exact ow7.kept (grownBy_setCell' w7 _ _) (fun k hk e => own_apart own7 bw70 (by decide) (hk.trans e.symm)) | exact ow7.kept (grownBy_setCell' w7 _ _) (fun k hk e => own_apart own7 bw71 (by decide) (hk.trans e.symm)) | exact ow7.kept (grownBy_setCell' w7 _ _) (fun k hk e => own_apart own7 bw72 (by decide) (hk.trans e.symm)) | exact ow7.kept (grownBy_setCell' w7 _ _) (fun k hk e => own_apart own7 bv70 (by decide) (hk.trans e.symm)) | exact ow7.kept (grownBy_setCell' w7 _ _) (fun k hk e => own_apart own7 bv71 (by decide) (hk.trans e.symm))
  case rest =>
    obtain ⟨q, B, cc, rfl, cq, oq, t0c, r0c, rfc, hqs, hzs, hBc⟩ := hcut
    clear KU END
    go_wp2_with fail
    refine (sSeriesOk wc _ n _ P ((h.below hBc).more hBc.size)).mono ?_
    rintro e w8 ⟨rfl, hb8⟩
    rw [hok]
    obtain ⟨hc8, hf8⟩ := keepc hb8
    have hs8 := hb8.size
    have o8 : w8.cell? ⟨q, 0, none⟩ = some (.slice B (n + 1) cc) := by rw [hc8 _ _ (by omega)]; exact cq
    have r8 : w8.cell? ⟨w.heap.size + 1 + 1, 0, none⟩ = some (.slice none 0 0) := by rw [hc8 _ _ (by omega)]; exact r0c
    have rf8 : w8.frozen? ⟨w.heap.size + 1 + 1, 0, none⟩ = false := by rw [hf8 _ _ (by omega)]; exact rfc
    have ow8 := oq.all hb8
    have hB8 := hBc.trans (hb8.mono hBc.size)
    clear hc8 hf8 hb8 oq cq r0c rfc t0c
    go_wp2_with fail
    refine (sSeriesOk w8 B (n + 1) cc P' (RdPo.own ow8)).mono ?_
    rintro e w9 ⟨rfl, hb9⟩
    rw [hok']
    obtain ⟨hc9, hf9⟩ := keepc hb9
    have hs9 := hb9.size
    have o9 : w9.cell? ⟨q, 0, none⟩ = some (.slice B (n + 1) cc) := by rw [hc9 _ _ (by omega)]; exact o8
    have r9 : w9.cell? ⟨w.heap.size + 1 + 1, 0, none⟩ = some (.slice none 0 0) := by rw [hc9 _ _ (by omega)]; exact r8
    have rf9 : w9.frozen? ⟨w.heap.size + 1 + 1, 0, none⟩ = false := by rw [hf9 _ _ (by omega)]; exact rf8
    have ow9 := ow8.all hb9
    have hB9 := hB8.trans (hb9.mono hB8.size)
    clear hc9 hf9 hb9 ow8 o8 r8 rf8
    go_wp2_with fail
    refine bodyPost_ret (v := .tuple #[.agg #[.slice B (n + 1) cc], .bool true]) (by simp [results, Try.results35, go_sem, r9]) rfl ⟨B, cc, rfl, ?_, hB9.setCell (by simp; omega) _⟩
    exact (ow9.kept (grownBy_setCell' w9 _ _) (fun k hk e => by have := (ow9.lt k hk).1; injection e; omega)).less (by omega)

set_option maxRecDepth 8000 in
set_option maxHeartbeats 6400000 in
theorem sPublishNil (w : World) (P' : Nat → Po) (hok' : seOk 1 P' = true) :
    Calls Try.prog 35 #[.agg #[.slice none 0 0], .agg #[.int .i64 (P' 0).m, .int .i64 (P' 0).n, .int .i64 (P' 0).v]] w fun e w' => ∃ (B : Option Addr) (cc : Nat), e = .returned (.tuple #[.agg #[.slice B 1 cc], .bool true]) ∧ OwR w' w.heap.size 45 3 (.slice B 1 cc) 1 (poAt P') ∧ Below w.heap.size w w' := by
  obtain ⟨i0, hi, hz0, hz1, hz2⟩ := info_parts po_inf
  have hbb : Below w.heap.size w (((w.alloc (.cells #[.slice none 0 0] 29)).alloc (.cells #[.int .i64 (P' 0).m, .int .i64 (P' 0).n, .int .i64 (P' 0).v] 45)).alloc (.cells #[.slice none 0 0] 29)) := (by (repeat (first | (with_reducible exact Below.refl _ _) | (with_reducible assumption) | (with_reducible refine Below.drew ?_) | (with_reducible refine below_drewN ?_ _) | ((with_reducible refine Below.setCell ?_ ?_ _); rotate_left; focus (first | (simp; done) | omega | (simp; omega))) | ((with_reducible refine Below.alloc ?_ ?_ _); rotate_left; focus (first | exact Nat.le_refl _ | omega | (simp; done) | (simp; omega))))))
  have hown := own_empty (((w.alloc (.cells #[.slice none 0 0] 29)).alloc (.cells #[.int .i64 (P' 0).m, .int .i64 (P' 0).n, .int .i64 (P' 0).v] 45)).alloc (.cells #[.slice none 0 0] 29)) (w.heap.size + 3) 45 3 (by simp)
  simp only [World.size_alloc] at hown
  have hok : seOk 0 P' = true := rfl
  have h : RdPo w w.heap.size none 0 P' := ⟨by omega, fun i hi => by omega⟩
  go_enter Try.func35, Try.ntmps35
  go_wp2_with (at_builtin; refine wpList_append_own_none rfl _ _ 27 rfl (w.heap.size + 3) 45 i0 3 Try.underlying27 hi _ _ _ rfl hown rfl ?_)
  obtain ⟨u, hu⟩ : ∃ u, u = (((((w.alloc (.cells #[.slice none 0 0] 29)).alloc (.cells #[.int .i64 (P' 0).m, .int .i64 (P' 0).n, .int .i64 (P' 0).v] 45)).alloc (.cells #[.slice none 0 0] 29)).alloc (.cells #[] 45)).alloc (.cells #[.slice (some ⟨w.heap.size + 1 + 1 + 1, 0, none⟩) 0 0] 29)) := ⟨_, rfl⟩
  have t0u : u.cell? ⟨w.heap.size, 0, none⟩ = some (.slice none 0 0) := by rw [hu]; simp [go_sem]
  have p0u : u.cell? ⟨w.heap.size + 1, 0, none⟩ = some (.int .i64 (P' 0).m) := by rw [hu]; simp [go_sem]
  have p1u : u.cell? ⟨w.heap.size + 1, 1, none⟩ = some (.int .i64 (P' 0).n) := by rw [hu]; simp [go_sem]
  have p2u : u.cell? ⟨w.heap.size + 1, 2, none⟩ = some (.int .i64 (P' 0).v) := by rw [hu]; simp [go_sem]
  have r0u : u.cell? ⟨w.heap.size + 1 + 1, 0, none⟩ = some (.slice none 0 0) := by rw [hu]; simp [go_sem]
  have rfu : u.frozen? ⟨w.heap.size + 1 + 1, 0, none⟩ = false := by rw [hu]; simp [go_sem]
  have hsu : w.heap.size + 4 ≤ u.heap.size := by rw [hu]; simp; try omega
  have hBu : Below w.heap.size w u := by rw [hu]; (repeat (first | (with_reducible exact Below.refl _ _) | (with_reducible assumption) | (with_reducible refine Below.drew ?_) | (with_reducible refine below_drewN ?_ _) | ((with_reducible refine Below.setCell ?_ ?_ _); rotate_left; focus (first | (simp; done) | omega | (simp; omega))) | ((with_reducible refine Below.alloc ?_ ?_ _); rotate_left; focus (first | exact Nat.le_refl _ | omega | (simp; done) | (simp; omega)))))
  go_upto_region 2 with fail
  rw [← hu]
  clear hu hown hbb
  have hru := h.below hBu
  have KU : ∀ v, Below (w.heap.size + 3) u v → (fun w' => w'.cell? ⟨w.heap.size, 0, none⟩ = some (.slice none 0 0) ∧ w'.cell? ⟨w.heap.size + 1, 0, none⟩ = some (.int .i64 (P' 0).m) ∧ w'.cell? ⟨w.heap.size + 1, 1, none⟩ = some (.int .i64 (P' 0).n) ∧ w'.cell? ⟨w.heap.size + 1, 2, none⟩ = some (.int .i64 (P' 0).v) ∧ w'.cell? ⟨w.heap.size + 1 + 1, 0, none⟩ = some (.slice none 0 0) ∧ w'.frozen? ⟨w.heap.size + 1 + 1, 0, none⟩ = false ∧ w.heap.size + 3 < w'.heap.size ∧ Below w.heap.size w w') v := fun v hb => ⟨((keepc hb).1 _ _ (by omega)).trans t0u, ((keepc hb).1 _ _ (by omega)).trans p0u, ((keepc hb).1 _ _ (by omega)).trans p1u, ((keepc hb).1 _ _ (by omega)).trans p2u, ((keepc hb).1 _ _ (by omega)).trans r0u, ((keepc hb).2 _ _ (by omega)).trans rfu, by have := hb.size; omega, hBu.trans (hb.mono (by omega))⟩
  have END : ∀ (W : World) (q : Nat) (B : Option Addr) (cc : Nat), Below (w.heap.size + 3) u W → W.cell? ⟨q, 0, none⟩ = some (.slice B 1 cc) → OwR W (w.heap.size + 3) 45 3 (.slice B 1 cc) 1 (poAt P') → q < W.heap.size → (fun (s7 : Value) (wx : World) => ∃ (q : Nat) (B : Option Addr) (cc : Nat), s7 = .pointer (some ⟨q, 0, none⟩) ∧ wx.cell? ⟨q, 0, none⟩ = some (.slice B 1 cc) ∧ OwR wx (w.heap.size + 3) 45 3 (.slice B 1 cc) 1 (poAt P') ∧ wx.cell? ⟨w.heap.size, 0, none⟩ = some (.slice none 0 0) ∧ wx.cell? ⟨w.heap.size + 1 + 1, 0, none⟩ = some (.slice none 0 0) ∧ wx.frozen? ⟨w.heap.size + 1 + 1, 0, none⟩ = false ∧ q < wx.heap.size ∧ w.heap.size + 3 < wx.heap.size ∧ Below w.heap.size w wx) (.pointer (some ⟨q, 0, none⟩)) W := fun W q B cc hb hc ho hq => ⟨q, B, cc, rfl, hc, ho, (KU W hb).1, (KU W hb).2.2.2.2.1, (KU W hb).2.2.2.2.2.1, hq, (KU W hb).2.2.2.2.2.2.1, (KU W hb).2.2.2.2.2.2.2⟩
  go_cut [7] (fun s7 wx => ∃ (q : Nat) (B : Option Addr) (cc : Nat), s7 = .pointer (some ⟨q, 0, none⟩) ∧ wx.cell? ⟨q, 0, none⟩ = some (.slice B 1 cc) ∧ OwR wx (w.heap.size + 3) 45 3 (.slice B 1 cc) 1 (poAt P') ∧ wx.cell? ⟨w.heap.size, 0, none⟩ = some (.slice none 0 0) ∧ wx.cell? ⟨w.heap.size + 1 + 1, 0, none⟩ = some (.slice none 0 0) ∧ wx.frozen? ⟨w.heap.size + 1 + 1, 0, none⟩ = false ∧ q < wx.heap.size ∧ w.heap.size + 3 < wx.heap.size ∧ Below w.heap.size w wx)
  case first =>
    go_region_held3 (fun w' => w'.cell? ⟨w.heap.size, 0, none⟩ = some (.slice none 0 0) ∧ w'.cell? ⟨w.heap.size + 1, 0, none⟩ = some (.int .i64 (P' 0).m) ∧ w'.cell? ⟨w.heap.size + 1, 1, none⟩ = some (.int .i64 (P' 0).n) ∧ w'.cell? ⟨w.heap.size + 1, 2, none⟩ = some (.int .i64 (P' 0).v) ∧ w'.cell? ⟨w.heap.size + 1 + 1, 0, none⟩ = some (.slice none 0 0) ∧ w'.frozen? ⟨w.heap.size + 1 + 1, 0, none⟩ = false ∧ w.heap.size + 3 < w'.heap.size ∧ Below w.heap.size w w') (first | (with_reducible assumption) | exact KU _ (by (repeat (first | (with_reducible exact Below.refl _ _) | (with_reducible assumption) | (with_reducible refine Below.drew ?_) | (with_reducible refine below_drewN ?_ _) | ((with_reducible refine Below.setCell ?_ ?_ _); rotate_left; focus (first | (simp; done) | omega | (simp; omega))) | ((with_reducible refine Below.alloc ?_ ?_ _); rotate_left; focus (first | exact Nat.le_refl _ | omega | (simp; done) | (simp; omega)))))))
      (first
      | ((with_reducible show ite (Region.wanted ⟨some 16, _, _, _, _, _⟩ _ = true) _ _); refine step_append_own_none (by rfl) (.tmp 13) (.tmp 15) 27 (by rfl) (w.heap.size + 3) 45 i0 3 Try.underlying27 hi (.slice (some ⟨_, 0, none⟩) 0 _) 0 [] (by rfl) ?_ (by rfl) ?_; focus ((repeat (first | ((with_reducible refine own_empty' ?_ ?_); (focus (simp; done)); (focus (first | omega | (simp; omega)))) | (with_reducible refine ownsRow_drew' ?_) | (with_reducible refine World.ownsRow.alloc ?_ _))); done))
      | ((with_reducible show ite (Region.wanted ⟨some 19, _, _, _, _, _⟩ _ = true) _ _); refine step_append_lies _ (by rfl) (.tmp 16) (.tmp 18) 27 (by rfl) (w.heap.size + 3) 45 i0 _ 3 24 Try.underlying27 hi hz0 hz1 hz2 rfl (by omega) (.slice (some ⟨_, 0, none⟩) 0 _) 0 [] (by rfl) ?_ _ 1 1 [.int .i64 (P' 0).m, .int .i64 (P' 0).n, .int .i64 (P' 0).v] (by rfl) (by rfl) ?_ (by simp [Value.oneCell']) (by omega) (by unfold maxLen; omega) (by omega) ?_ _ rfl ?_; (focus ((repeat (first | ((with_reducible refine own_empty' ?_ ?_); (focus (simp; done)); (focus (first | omega | (simp; omega)))) | (with_reducible refine ownsRow_drew' ?_) | (with_reducible refine World.ownsRow.alloc ?_ _))); done)); (focus (refine Whole.news (t := 45) ?_; (repeat (first | ((with_reducible refine Whole.new' ?_); focus (simp; done)) | (with_reducible refine Whole.drew ?_) | (with_reducible refine Whole.alloc ?_ _))); done)); (focus (first | (simp; done) | omega | (simp; omega))); intro g7 c7 w7 own7 hg7 hat7 hlt7; simp only [Nat.zero_add, List.nil_append] at own7 ⊢; have hb7 : Below (w.heap.size + 3) u w7 := (by refine Below.grown ?_ hg7 (by first | omega | (simp; omega)) (fun q hq => (by simp [Value.ownBlock] at hq; omega)); (repeat (first | (with_reducible exact Below.refl _ _) | (with_reducible assumption) | (with_reducible refine Below.drew ?_) | (with_reducible refine below_drewN ?_ _) | ((with_reducible refine Below.setCell ?_ ?_ _); rotate_left; focus (first | (simp; done) | omega | (simp; omega))) | ((with_reducible refine Below.alloc ?_ ?_ _); rotate_left; focus (first | exact Nat.le_refl _ | omega | (simp; done) | (simp; omega)))))); have hS7 := KU _ hb7; have ow7 : OwR w7 (w.heap.size + 3) 45 3 (.slice (some ⟨g7, 0, none⟩) 1 c7) 1 (poAt P') := OwPo.range (by exact own7); (try (refine (have bw70 : Whole w7 (u.heap.size) 29 #[.slice none 0 0] := ?_; ?_); focus (refine Whole.grown ?_ hg7 ?_; (focus ((repeat (first | ((with_reducible refine Whole.new' ?_); focus (simp; done)) | (with_reducible refine Whole.drew ?_) | (with_reducible refine Whole.alloc ?_ _))); done)); (focus (first | (simp [Value.ownBlock]; done) | (simp [Value.ownBlock]; omega)))))); (try (refine (have bw71 : Whole w7 (u.heap.size + 1) 29 #[.slice none 0 0] := ?_; ?_); focus (refine Whole.grown ?_ hg7 ?_; (focus ((repeat (first | ((with_reducible refine Whole.new' ?_); focus (simp; done)) | (with_reducible refine Whole.drew ?_) | (with_reducible refine Whole.alloc ?_ _))); done)); (focus (first | (simp [Value.ownBlock]; done) | (simp [Value.ownBlock]; omega)))))); (try (refine (have bw72 : Whole w7 (u.heap.size + 1 + 1) 29 #[.slice none 0 0] := ?_; ?_); focus (refine Whole.grown ?_ hg7 ?_; (focus ((repeat (first | ((with_reducible refine Whole.new' ?_); focus (simp; done)) | (with_reducible refine Whole.drew ?_) | (with_reducible refine Whole.alloc ?_ _))); done)); (focus (first | (simp [Value.ownBlock]; done) | (simp [Value.ownBlock]; omega)))))); (try (have lz7 := bw70.lt; have bc7 := bw70.cell 0; have bf7 := bw70.free 0; simp at bc7)); (try (have lz7 := bw71.lt; have bc7 := bw71.cell 0; have bf7 := bw71.free 0; simp at bc7)); (try (have lz7 := bw72.lt; have bc7 := bw72.cell 0; have bf7 := bw72.free 0; simp at bc7))))
    all_goals go_wp2_with fail
    all_goals go_meet
    all_goals refine END _ _ (some ⟨g7, 0, none⟩) c7 ?_ ?_ ?_ ?_
    all_goals first | (with_reducible assumption) | ((repeat (first | (with_reducible exact Below.refl _ _) | (with_reducible assumption) | (with_reducible refine Below.drew ?_) | (with_reducible refine below_drewN ?_ _) | ((with_reducible refine Below.setCell ?_ ?_ _); rotate_left; focus (first | (simp; done) | omega | (simp; omega))) | ((with_reducible refine Below.alloc ?_ ?_ _); rotate_left; focus (first | exact Nat.le_refl _ | omega | (simp; done) | (simp; omega))))); done) | (simp [go_sem, *]; done) | omega | (simp; omega) | exact ow7.all ((Below.refl _ _).alloc (Nat.le_refl _) _) | exact ow7.kept (grownBy_setCell' w7 _ _) (fun k hk e => own_apart own7 bw70 (by decide) (hk.trans e.symm)) | exact ow7.kept (grownBy_setCell' w7 _ _) (fun k hk e => own_apart own7 bw71 (by decide) (hk.trans e.symm)) | exact ow7.kept (grownBy_setCell' w7 _ _) (fun k hk e => own_apart own7 bw72 (by decide) (hk.trans e.symm))
  case rest =>
    obtain ⟨q, B, cc, rfl, cq, oq, t0c, r0c, rfc, hqs, hzs, hBc⟩ := hcut
    clear KU END
    go_wp2_with fail
    refine (sSeriesOk wc _ 0 _ P' ((h.below hBc).more hBc.size)).mono ?_
    rintro e w8 ⟨rfl, hb8⟩
    rw [hok]
    obtain ⟨hc8, hf8⟩ := keepc hb8
    have hs8 := hb8.size
    have o8 : w8.cell? ⟨q, 0, none⟩ = some (.slice B 1 cc) := by rw [hc8 _ _ (by omega)]; exact cq
    have r8 : w8.cell? ⟨w.heap.size + 1 + 1, 0, none⟩ = some (.slice none 0 0) := by rw [hc8 _ _ (by omega)]; exact r0c
    have rf8 : w8.frozen? ⟨w.heap.size + 1 + 1, 0, none⟩ = false := by rw [hf8 _ _ (by omega)]; exact rfc
    have ow8 := oq.all hb8
    have hB8 := hBc.trans (hb8.mono hBc.size)
    clear hc8 hf8 hb8 oq cq r0c rfc t0c
    go_wp2_with fail
    refine (sSeriesOk w8 B 1 cc P' (RdPo.own ow8)).mono ?_
    rintro e w9 ⟨rfl, hb9⟩
    rw [hok']
    obtain ⟨hc9, hf9⟩ := keepc hb9
    have hs9 := hb9.size
    have o9 : w9.cell? ⟨q, 0, none⟩ = some (.slice B 1 cc) := by rw [hc9 _ _ (by omega)]; exact o8
    have r9 : w9.cell? ⟨w.heap.size + 1 + 1, 0, none⟩ = some (.slice none 0 0) := by rw [hc9 _ _ (by omega)]; exact r8
    have rf9 : w9.frozen? ⟨w.heap.size + 1 + 1, 0, none⟩ = false := by rw [hf9 _ _ (by omega)]; exact rf8
    have ow9 := ow8.all hb9
    have hB9 := hB8.trans (hb9.mono hB8.size)
    clear hc9 hf9 hb9 ow8 o8 r8 rf8
    go_wp2_with fail
    refine bodyPost_ret (v := .tuple #[.agg #[.slice B 1 cc], .bool true]) (by simp [results, Try.results35, go_sem, r9]) rfl ⟨B, cc, rfl, ?_, hB9.setCell (by simp; omega) _⟩
    exact (ow9.kept (grownBy_setCell' w9 _ _) (fun k hk e => by have := (ow9.lt k hk).1; injection e; omega)).less (by omega)
end Go.Proofs.Ytondmakaednpdaa
