/- AddFact of the reference, at good facts. Conditions: the facts can be read. -/
import Derived.Test.YtondmakaednpdaaSeries
import Derived.Laws.AppendOwnNone
namespace Go.Proofs.Ytondmakaednpdaa
open Go.RowKit

set_option maxRecDepth 4000 in
set_option maxHeartbeats 1600000 in
theorem sl05Copy (w : World) (A : Option Addr) (n c : Nat) (L : Nat → Fa) (h : RdFa w w.heap.size A n L) (hA : A = none → n = 0 ∧ c = 0) (hn : n ≤ 1048576) :
    Calls Try.prog 60 #[.agg #[.slice A n c]] w fun e w' => ∃ (B : Option Addr) (cc : Nat), e = .returned (.agg #[.slice B n cc]) ∧ w'.ownsRow w.heap.size 71 5 (.slice B n cc) n (((List.range n).map L).flatMap Fa.cells) ∧ Below w.heap.size w w' := by
  obtain ⟨i0, hi, hz0, hz1, hz2⟩ := info_parts fa_inf
  have hbb : Below w.heap.size w (((w.alloc (.cells #[.slice A n c] 26)).alloc (.cells #[.slice none 0 0] 26)).alloc (.cells #[] 71)) := by (repeat (first | (with_reducible exact Below.refl _ _) | (with_reducible assumption) | (with_reducible refine Below.drew ?_) | (with_reducible refine below_drewN ?_ _) | ((with_reducible refine Below.setCell ?_ ?_ _); rotate_left; focus (first | (simp; done) | omega | (simp; omega))) | ((with_reducible refine Below.alloc ?_ ?_ _); rotate_left; focus (first | exact Nat.le_refl _ | omega | (simp; done) | (simp; omega)))))
  have hh := (h.below hbb)
  have hown := own_empty ((w.alloc (.cells #[.slice A n c] 26)).alloc (.cells #[.slice none 0 0] 26)) w.heap.size 71 5 (by simp; omega)
  simp only [World.size_alloc] at hown
  cases A with
  | none =>
    obtain ⟨rfl, rfl⟩ := hA rfl
    go_enter Try.func60, Try.ntmps60
    go_wp2_with (at_builtin; refine wpList_append_own_none rfl _ _ 24 rfl w.heap.size 71 i0 5 Try.underlying24 hi _ _ _ rfl hown rfl ?_)
    refine bodyPost_ret (v := .agg #[.slice (some ⟨w.heap.size + 1 + 1, 0, none⟩) 0 0]) (by simp [results, Try.results60, go_sem]) rfl ⟨_, _, rfl, ?_, ?_⟩
    · have := own_empty ((w.alloc (.cells #[.slice none 0 0] 26)).alloc (.cells #[.slice (some ⟨w.heap.size + 1 + 1, 0, none⟩) 0 0] 26)) w.heap.size 71 5 (by simp; omega)
      simpa using this
    · (repeat (first | (with_reducible exact Below.refl _ _) | (with_reducible assumption) | (with_reducible refine Below.drew ?_) | (with_reducible refine below_drewN ?_ _) | ((with_reducible refine Below.setCell ?_ ?_ _); rotate_left; focus (first | (simp; done) | omega | (simp; omega))) | ((with_reducible refine Below.alloc ?_ ?_ _); rotate_left; focus (first | exact Nat.le_refl _ | omega | (simp; done) | (simp; omega)))))
  | some ad =>
    go_enter Try.func60, Try.ntmps60
    go_wp2_with (at_builtin; refine wpList_append_own_at _ rfl _ _ 24 rfl w.heap.size 71 i0 (.agg #[.int .i64 0, .int .i64 0, .int .i64 0, .int .i64 0, .int .i64 0]) 5 40 Try.underlying24 hi hz0 hz1 hz2 rfl (by decide) _ _ _ rfl (hown) ad n c (((List.range n).map L).flatMap Fa.cells) rfl ?c1 ?c2 ?c3 ?c4 ?c5 ?c6 ?_)
    case c1 => exact fa_flat_len L n
    case c2 => exact hh.news
    case c3 => exact fa_one L n
    case c4 => unfold maxLen; omega
    case c5 => omega
    case c6 => simp; omega
    intro v' w1 hown1 hg1 _ hat
    have hc1 : w1.cell? ⟨w.heap.size + 1, 0, none⟩ = some (.slice none 0 0) := hg1.cell (by simp [go_sem]) (by simp [Value.ownBlock])
    have hf1 : w1.frozen? ⟨w.heap.size + 1, 0, none⟩ = false := by
      rw [World.frozen?_of_block (hg1.block _ (by first | (simp; done) | (simp; omega)) (by simp [Value.ownBlock]))]
      simp [go_sem]
    have hB1 : Below w.heap.size w w1 := hbb.grown hg1 hbb.size (fun q hq => by simp [Value.ownBlock] at hq; omega)
    have hne : v'.ownBlock ≠ some (w.heap.size + 1) := by
      rcases hat with e | e <;> rw [e] <;> simp [Value.ownBlock] <;> omega
    have hs1 : w.heap.size + 3 ≤ w1.heap.size := by have := hg1.size; simp at this; omega
    clear hat hg1 hh
    obtain ⟨B, cc, rfl⟩ := (OwR.of_own hown1).form
    go_wp2_with fail
    refine bodyPost_ret (v := .agg #[.slice B n cc]) (by simp [results, Try.results60, go_sem, hc1]) rfl ⟨_, _, rfl, ?_, hB1.setCell (by simp) _⟩
    exact hown1.kept (grownBy_setCell' w1 (w.heap.size + 1) _) (.inr hne)

theorem cells_new (w : World) (xs : List Value) (t : TypeId) : ∀ j u, xs[j]? = some u → (w.alloc (.cells xs.toArray t)).cell? ((⟨w.heap.size, 0, none⟩ : Addr).add j) = some u := by
  intro j u hj
  have ha : Addr.add ⟨w.heap.size, 0, none⟩ j = ⟨w.heap.size, j, none⟩ := by unfold Addr.add; split <;> simp_all
  rw [ha, (Whole.new w t xs.toArray).cell j, List.getElem?_toArray, hj]
theorem range_more {α : Type} {f : α → List Value} {L L' : Nat → α} {n : Nat} (h : ∀ i, i < n → L' i = L i) : ((List.range n).map L).flatMap f ++ f (L' n) = ((List.range (n + 1)).map L').flatMap f := by
  rw [List.range_succ, List.map_append, List.flatMap_append, List.map_congr_left (f := L) (g := L') (fun i hi => (h i (List.mem_range.1 hi)).symm)]
  simp
theorem OwFa.range {w : World} {base n : Nat} {v : Value} {L : Nat → Fa} (h : w.ownsRow base 71 5 v n (((List.range n).map L).flatMap Fa.cells)) : OwR w base 71 5 v n (faAt L) :=
  (OwR.of_own h).congr fun j hj => by rw [List.getD_eq_getElem?_getD, fa_flat L hj]; rfl
set_option maxRecDepth 4000 in
set_option maxHeartbeats 3200000 in
theorem sAddFact (w : World) (A : Option Addr) (n c : Nat) (L L' : Nat → Fa) (h : RdFa w w.heap.size A n L) (hA : A = none → n = 0 ∧ c = 0) (hn : n ≤ 100) (hL : ∀ i, i < n → L' i = L i) (hok : stOk n L = true) (hok' : stOk (n + 1) L' = true) :
    Calls Try.prog 33 #[.agg #[.slice A n c], (L' n).val] w fun e w' => ∃ (B : Option Addr) (cc : Nat), e = .returned (.tuple #[.agg #[.slice B (n + 1) cc], .bool true]) ∧ OwR w' w.heap.size 71 5 (.slice B (n + 1) cc) (n + 1) (faAt L') ∧ Below w.heap.size w w' := by
  obtain ⟨i0, hi, hz0, hz1, hz2⟩ := info_parts fa_inf
  have hbb : Below w.heap.size w (((w.alloc (.cells #[.slice A n c] 26)).alloc (.cells #[.int .i64 (L' n).k, .int .i64 (L' n).f, .int .i64 (L' n).t, .int .i64 (L' n).n, .int .i64 (L' n).v] 71)).alloc (.cells #[.slice none 0 0] 26)) := by (repeat (first | (with_reducible exact Below.refl _ _) | (with_reducible assumption) | (with_reducible refine Below.drew ?_) | (with_reducible refine below_drewN ?_ _) | ((with_reducible refine Below.setCell ?_ ?_ _); rotate_left; focus (first | (simp; done) | omega | (simp; omega))) | ((with_reducible refine Below.alloc ?_ ?_ _); rotate_left; focus (first | exact Nat.le_refl _ | omega | (simp; done) | (simp; omega)))))
  go_enter Try.func33, Try.ntmps33
  go_wp2_with fail
  refine (sl05Copy _ A n c L ((h.below hbb).more (by simp; omega)) hA (by omega)).mono ?_
  rintro e w1 ⟨B1, c1, rfl, hown1, hb1⟩
  obtain ⟨hc1, hf1⟩ := keepc hb1
  have hs1 : w.heap.size + 3 ≤ w1.heap.size := by have := hb1.size; simp at this; omega
  have a0 : w1.cell? ⟨w.heap.size, 0, none⟩ = some (.slice A n c) := by rw [hc1 _ _ (by simp; omega)]; simp [go_sem]
  have b0 : w1.cell? ⟨w.heap.size + 1, 0, none⟩ = some (.int .i64 (L' n).k) := by rw [hc1 _ _ (by simp)]; simp [go_sem]
  have b1 : w1.cell? ⟨w.heap.size + 1, 1, none⟩ = some (.int .i64 (L' n).f) := by rw [hc1 _ _ (by simp)]; simp [go_sem]
  have b2 : w1.cell? ⟨w.heap.size + 1, 2, none⟩ = some (.int .i64 (L' n).t) := by rw [hc1 _ _ (by simp)]; simp [go_sem]
  have b3 : w1.cell? ⟨w.heap.size + 1, 3, none⟩ = some (.int .i64 (L' n).n) := by rw [hc1 _ _ (by simp)]; simp [go_sem]
  have b4 : w1.cell? ⟨w.heap.size + 1, 4, none⟩ = some (.int .i64 (L' n).v) := by rw [hc1 _ _ (by simp)]; simp [go_sem]
  have r0 : w1.cell? ⟨w.heap.size + 1 + 1, 0, none⟩ = some (.slice none 0 0) := by rw [hc1 _ _ (by simp)]; simp [go_sem]
  have rf : w1.frozen? ⟨w.heap.size + 1 + 1, 0, none⟩ = false := by rw [hf1 _ _ (by simp)]; simp [go_sem]
  have hB1 : Below w.heap.size w w1 := hbb.trans (hb1.mono (by simp; omega))
  have hv1 : ∀ k, (Value.slice B1 n c1).ownBlock = some k → w.heap.size + 3 ≤ k ∧ k < w1.heap.size := fun k hk => by have := hown1.lt k hk; simp at this; omega
  have y0 : w.heap.size < w1.heap.size := by omega
  have y1 : w.heap.size + 1 < w1.heap.size := by omega
  have y2 : w.heap.size + 1 + 1 < w1.heap.size := by omega
  have n0 : ¬ w.heap.size = w1.heap.size := by omega
  have n1 : ¬ w.heap.size + 1 = w1.heap.size := by omega
  have n2 : ¬ w.heap.size + 1 + 1 = w1.heap.size := by omega
  clear hc1 hf1 hb1
  go_wp2_with (at_builtin; (refine wpList_append_own_at _ rfl _ _ 24 rfl _ 71 i0 (.agg #[.int .i64 0, .int .i64 0, .int .i64 0, .int .i64 0, .int .i64 0]) 5 40 Try.underlying24 hi hz0 hz1 hz2 rfl (by decide) _ _ _ rfl ((hown1.alloc (.cells #[.slice B1 n c1] 26)).alloc (.cells #[.int .i64 (L' n).k, .int .i64 (L' n).f, .int .i64 (L' n).t, .int .i64 (L' n).n, .int .i64 (L' n).v] 71)) ⟨w1.heap.size + 1, 0, none⟩ 1 1 [.int .i64 (L' n).k, .int .i64 (L' n).f, .int .i64 (L' n).t, .int .i64 (L' n).n, .int .i64 (L' n).v] rfl rfl ?c1 ?c2 ?c3 ?c4 ?c5 ?_))
  case c1 => (have := cells_new (w1.alloc (.cells #[.slice B1 n c1] 26)) [.int .i64 (L' n).k, .int .i64 (L' n).f, .int .i64 (L' n).t, .int .i64 (L' n).n, .int .i64 (L' n).v] 71; simpa using this)
  case c2 => (first | rfl | (intro u hu; simp at hu; rcases hu with rfl | rfl | rfl | rfl | rfl <;> rfl))
  case c3 => unfold maxLen; omega
  case c4 => omega
  case c5 => simp; omega
  intro v2 w2 hown2 hg2 _ hat
  obtain ⟨B2, c2, rfl⟩ := (OwR.of_own hown2).form
  have far : ∀ b, (b < w.heap.size + 3 ∨ w1.heap.size ≤ b) → some b ≠ (Value.slice B1 n c1).ownBlock := fun b hb e => by have := hv1 b e.symm; omega
  have a2 : w2.cell? ⟨w.heap.size, 0, none⟩ = some (.slice A n c) := hg2.cell (by simp [go_sem, *]) (far w.heap.size (.inl (by omega)))
  have o2 : w2.cell? ⟨w1.heap.size, 0, none⟩ = some (.slice B1 n c1) := hg2.cell (by simp [go_sem]) (far w1.heap.size (.inr (Nat.le_refl _)))
  have of2 : w2.frozen? ⟨w1.heap.size, 0, none⟩ = false := by rw [World.frozen?_of_block (hg2.block _ (by simp; omega) (far w1.heap.size (.inr (Nat.le_refl _))))]; simp [go_sem]
  have r2 : w2.cell? ⟨w.heap.size + 1 + 1, 0, none⟩ = some (.slice none 0 0) := hg2.cell (by simp [go_sem, *]) (far (w.heap.size + 1 + 1) (.inl (by omega)))
  have rf2 : w2.frozen? ⟨w.heap.size + 1 + 1, 0, none⟩ = false := by rw [World.frozen?_of_block (hg2.block _ (by simp; omega) (far (w.heap.size + 1 + 1) (.inl (by omega))))]; simp [go_sem, *]
  have hs2 : w1.heap.size + 2 ≤ w2.heap.size := by have := hg2.size; simp at this; omega
  have hB2 : Below w.heap.size w w2 := ((hB1.alloc (by omega) _).alloc (by simp; omega) _).grown hg2 (by simp; omega) (fun q hq => by have := hv1 q hq; omega)
  have he := range_more (f := Fa.cells) (L := L) (L' := L') (n := n) hL
  have ow2 : OwR w2 (w.heap.size + 1 + 1 + 1) 71 5 (.slice B2 (n + 1) c2) (n + 1) (faAt L') := OwFa.range (by rw [← he]; exact hown2)
  have hv2 : ∀ k, (Value.slice B2 (n + 1) c2).ownBlock = some k → w.heap.size + 3 ≤ k ∧ k ≠ w1.heap.size := fun k hk => by
    rcases hat with e | e
    · rw [e] at hk; have := hv1 k hk; omega
    · rw [e] at hk; injection hk; omega
  clear hat hown2 hg2 far he hown1 hv1
  clear b0 b1 b2 b3 b4 a0 r0 rf
  have hB3 : Below w.heap.size w (w2.setCell ⟨w1.heap.size, 0, none⟩ (.slice B2 (n + 1) c2)) := hB2.setCell (by simp; omega) _
  have ow3 := ow2.kept (grownBy_setCell' w2 w1.heap.size (.slice B2 (n + 1) c2)) (fun k hk e => (hv2 k hk).2 (by injection e with e; exact e.symm))
  have o3 : (w2.setCell ⟨w1.heap.size, 0, none⟩ (.slice B2 (n + 1) c2)).cell? ⟨w1.heap.size, 0, none⟩ = some (.slice B2 (n + 1) c2) := World.cell?_setCell_same' _ _ _ (by rw [o2]; rfl)
  go_wp2_with fail
  refine (sStoreOk _ A n c L ((h.below hB3).more hB3.size)).mono ?_
  rintro e w4 ⟨rfl, hb4⟩
  rw [hok]
  obtain ⟨hc4, hf4⟩ := keepc hb4
  have hs4 : w2.heap.size ≤ w4.heap.size := by have := hb4.size; simp at this; omega
  have o4 : w4.cell? ⟨w1.heap.size, 0, none⟩ = some (.slice B2 (n + 1) c2) := by rw [hc4 _ _ (by simp; omega)]; exact o3
  have r4 : w4.cell? ⟨w.heap.size + 1 + 1, 0, none⟩ = some (.slice none 0 0) := by rw [hc4 _ _ (by simp; omega)]; simp [go_sem, *]
  have rf4 : w4.frozen? ⟨w.heap.size + 1 + 1, 0, none⟩ = false := by rw [hf4 _ _ (by simp; omega)]; simp [go_sem, *]
  have ow4 := ow3.all hb4
  have hB4 := hB3.trans (hb4.mono hB3.size)
  clear hc4 hf4 hb4 ow3 ow2 o3 o2 of2 r2 rf2 a2 hB3 hB2
  go_wp2_with fail
  refine (sStoreOk w4 B2 (n + 1) c2 L' (RdFa.own ow4)).mono ?_
  rintro e w5 ⟨rfl, hb5⟩
  rw [hok']
  obtain ⟨hc5, hf5⟩ := keepc hb5
  have o5 : w5.cell? ⟨w1.heap.size, 0, none⟩ = some (.slice B2 (n + 1) c2) := by rw [hc5 _ _ (by omega)]; exact o4
  have r5 : w5.cell? ⟨w.heap.size + 1 + 1, 0, none⟩ = some (.slice none 0 0) := by rw [hc5 _ _ (by omega)]; exact r4
  have rf5 : w5.frozen? ⟨w.heap.size + 1 + 1, 0, none⟩ = false := by rw [hf5 _ _ (by omega)]; exact rf4
  have ow5 := ow4.all hb5
  have hB5 := hB4.trans (hb5.mono hB4.size)
  clear hc5 hf5 hb5 ow4
  go_wp2_with fail
  refine bodyPost_ret (v := .tuple #[.agg #[.slice B2 (n + 1) c2], .bool true]) (by simp [results, Try.results33, go_sem, r5]) rfl ⟨B2, c2, rfl, ?_, hB5.setCell (by simp; omega) _⟩
  exact (ow5.kept (grownBy_setCell' w5 _ _) (fun k hk e => by have := (hv2 k hk).1; injection e; omega)).less (by omega)
end Go.Proofs.Ytondmakaednpdaa
