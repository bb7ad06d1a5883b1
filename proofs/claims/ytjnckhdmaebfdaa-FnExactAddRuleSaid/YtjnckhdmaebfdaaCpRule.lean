/- Copies of rules and of books, of the reference. Conditions: the rules can be read. -/
import Derived.Test.YtjnckhdmaebfdaaOwB
import Derived.Laws.AppendOwnNone
import Derived.Deep.AppendLies
import Derived.Deep.DeepCutAuto
import Derived.Deep.RegionLaw
namespace Go.Proofs.Ytjnckhdmaebfdaa
open Go.RowKit

set_option linter.unusedVariables false
theorem OwR.put' {w : World} {base size n b o : Nat} {e : TypeId} {v : Value} {F : Nat → Value} (h : OwR w base e size v n F) (hne : ∀ k, v.ownBlock = some k → b ≠ k) (u : Value) : OwR (w.setCell ⟨b, o, none⟩ u) base e size v n F :=
  h.kept (row := some b) (grown_setCell (grown_refl _ _) rfl _) (fun k hk e => hne k hk (by injection e))
theorem OwNo.range {w : World} {base n : Nat} {v : Value} {N : Nat → No} (h : w.ownsRow base 65 6 v n (((List.range n).map N).flatMap No.cells)) : OwR w base 65 6 v n (noAt N) :=
  (OwR.of_own h).congr fun j hj => by rw [List.getD_eq_getElem?_getD, no_flat N hj]; rfl
set_option maxRecDepth 4000 in
set_option maxHeartbeats 3200000 in
theorem sl10Rule (w : World) (s : Ru) (A : Option Addr) (n c : Nat) (N : Nat → No) (h : RdNo w w.heap.size A n N) (hA : A = none → n = 0 ∧ c = 0) (hn : n ≤ 1048576) :
    Calls Try.prog 70 #[.agg #[.int .i64 s.nm, .int .i64 s.fr, .int .i64 s.to, .int .i64 s.jo, .int .i64 s.ra, .int .i64 s.mo, .slice A n c]] w fun e w' => ∃ (B : Option Addr) (cc : Nat), e = .returned (.agg #[.int .i64 s.nm, .int .i64 s.fr, .int .i64 s.to, .int .i64 s.jo, .int .i64 s.ra, .int .i64 s.mo, .slice B n cc]) ∧ OwR w' w.heap.size 65 6 (.slice B n cc) n (noAt N) ∧ Below w.heap.size w w' := by
  obtain ⟨i0, hi, hz0, hz1, hz2⟩ := info_parts no_inf
  have hbb : Below w.heap.size w (((w.alloc (.cells #[.int .i64 s.nm, .int .i64 s.fr, .int .i64 s.to, .int .i64 s.jo, .int .i64 s.ra, .int .i64 s.mo, .slice A n c] 29)).alloc (.cells #[.int .i64 0, .int .i64 0, .int .i64 0, .int .i64 0, .int .i64 0, .int .i64 0, .slice none 0 0] 29)).alloc (.cells #[] 65)) := (by (repeat (first | (with_reducible exact Below.refl _ _) | (with_reducible assumption) | (with_reducible refine Below.drew ?_) | (with_reducible refine below_drewN ?_ _) | ((with_reducible refine Below.setCell ?_ ?_ _); rotate_left; focus (first | (simp; done) | omega | (simp; omega))) | ((with_reducible refine Below.alloc ?_ ?_ _); rotate_left; focus (first | exact Nat.le_refl _ | omega | (simp; done) | (simp; omega))))))
  have hh := h.below hbb
  have hown := own_empty ((w.alloc (.cells #[.int .i64 s.nm, .int .i64 s.fr, .int .i64 s.to, .int .i64 s.jo, .int .i64 s.ra, .int .i64 s.mo, .slice A n c] 29)).alloc (.cells #[.int .i64 0, .int .i64 0, .int .i64 0, .int .i64 0, .int .i64 0, .int .i64 0, .slice none 0 0] 29)) w.heap.size 65 6 (by simp; omega)
  simp only [World.size_alloc] at hown
  cases A with
  | none =>
    obtain ⟨rfl, rfl⟩ := hA rfl
    go_enter Try.func70, Try.ntmps70
    go_wp2_with (at_builtin; refine wpList_append_own_none rfl _ _ 27 rfl w.heap.size 65 i0 6 Try.underlying27 hi _ _ _ rfl hown rfl ?_)
    refine bodyPost_ret (v := .agg #[.int .i64 s.nm, .int .i64 s.fr, .int .i64 s.to, .int .i64 s.jo, .int .i64 s.ra, .int .i64 s.mo, .slice (some ⟨w.heap.size + 1 + 1, 0, none⟩) 0 0]) (by simp [results, Try.results70, go_sem]) rfl ⟨_, _, rfl, ?_, ?_⟩
    · have k := own_empty ((w.alloc (.cells #[.int .i64 s.nm, .int .i64 s.fr, .int .i64 s.to, .int .i64 s.jo, .int .i64 s.ra, .int .i64 s.mo, .slice (some ⟨w.heap.size + 1 + 1, 0, none⟩) 0 0] 29)).alloc (.cells #[.int .i64 s.nm, .int .i64 s.fr, .int .i64 s.to, .int .i64 s.jo, .int .i64 s.ra, .int .i64 s.mo, .slice (some ⟨w.heap.size + 1 + 1, 0, none⟩) 0 0] 29)) w.heap.size 65 6 (by simp; omega)
      simp only [World.size_alloc] at k
      exact (OwR.of_own k).congr fun j hj => by omega
    · (repeat (first | (with_reducible exact Below.refl _ _) | (with_reducible assumption) | (with_reducible refine Below.drew ?_) | (with_reducible refine below_drewN ?_ _) | ((with_reducible refine Below.setCell ?_ ?_ _); rotate_left; focus (first | (simp; done) | omega | (simp; omega))) | ((with_reducible refine Below.alloc ?_ ?_ _); rotate_left; focus (first | exact Nat.le_refl _ | omega | (simp; done) | (simp; omega)))))
  | some ad =>
    go_enter Try.func70, Try.ntmps70
    go_wp2_with (at_builtin; refine wpList_append_own_at _ rfl _ _ 27 rfl w.heap.size 65 i0 (.agg #[.int .i64 0, .int .i64 0, .int .i64 0, .int .i64 0, .int .i64 0, .int .i64 0]) 6 48 Try.underlying27 hi hz0 hz1 hz2 rfl (by decide) _ _ _ rfl (hown) ad n c (((List.range n).map N).flatMap No.cells) rfl ?c1 ?c2 ?c3 ?c4 ?c5 ?c6 ?_)
    case c1 => exact no_flat_len N n
    case c2 => exact hh.news
    case c3 => exact no_one N n
    case c4 => unfold maxLen; omega
    case c5 => omega
    case c6 => simp; omega
    intro v' w1 hown1 hg1 _ hat
    have a0 : w1.cell? ⟨w.heap.size, 0, none⟩ = some (.int .i64 s.nm) := hg1.cell (by simp [go_sem]) (by simp [Value.ownBlock]; try omega)
    have z0 : w1.cell? ⟨w.heap.size + 1, 0, none⟩ = some (.int .i64 0) := hg1.cell (by simp [go_sem]) (by simp [Value.ownBlock])
    have g0 : w1.frozen? ⟨w.heap.size + 1, 0, none⟩ = false := by
      rw [World.frozen?_of_block (hg1.block _ (by first | (simp; done) | (simp; omega)) (by simp [Value.ownBlock]))]
      simp [go_sem]
    have a1 : w1.cell? ⟨w.heap.size, 1, none⟩ = some (.int .i64 s.fr) := hg1.cell (by simp [go_sem]) (by simp [Value.ownBlock]; try omega)
    have z1 : w1.cell? ⟨w.heap.size + 1, 1, none⟩ = some (.int .i64 0) := hg1.cell (by simp [go_sem]) (by simp [Value.ownBlock])
    have g1 : w1.frozen? ⟨w.heap.size + 1, 1, none⟩ = false := by
      rw [World.frozen?_of_block (hg1.block _ (by first | (simp; done) | (simp; omega)) (by simp [Value.ownBlock]))]
      simp [go_sem]
    have a2 : w1.cell? ⟨w.heap.size, 2, none⟩ = some (.int .i64 s.to) := hg1.cell (by simp [go_sem]) (by simp [Value.ownBlock]; try omega)
    have z2 : w1.cell? ⟨w.heap.size + 1, 2, none⟩ = some (.int .i64 0) := hg1.cell (by simp [go_sem]) (by simp [Value.ownBlock])
    have g2 : w1.frozen? ⟨w.heap.size + 1, 2, none⟩ = false := by
      rw [World.frozen?_of_block (hg1.block _ (by first | (simp; done) | (simp; omega)) (by simp [Value.ownBlock]))]
      simp [go_sem]
    have a3 : w1.cell? ⟨w.heap.size, 3, none⟩ = some (.int .i64 s.jo) := hg1.cell (by simp [go_sem]) (by simp [Value.ownBlock]; try omega)
    have z3 : w1.cell? ⟨w.heap.size + 1, 3, none⟩ = some (.int .i64 0) := hg1.cell (by simp [go_sem]) (by simp [Value.ownBlock])
    have g3 : w1.frozen? ⟨w.heap.size + 1, 3, none⟩ = false := by
      rw [World.frozen?_of_block (hg1.block _ (by first | (simp; done) | (simp; omega)) (by simp [Value.ownBlock]))]
      simp [go_sem]
    have a4 : w1.cell? ⟨w.heap.size, 4, none⟩ = some (.int .i64 s.ra) := hg1.cell (by simp [go_sem]) (by simp [Value.ownBlock]; try omega)
    have z4 : w1.cell? ⟨w.heap.size + 1, 4, none⟩ = some (.int .i64 0) := hg1.cell (by simp [go_sem]) (by simp [Value.ownBlock])
    have g4 : w1.frozen? ⟨w.heap.size + 1, 4, none⟩ = false := by
      rw [World.frozen?_of_block (hg1.block _ (by first | (simp; done) | (simp; omega)) (by simp [Value.ownBlock]))]
      simp [go_sem]
    have a5 : w1.cell? ⟨w.heap.size, 5, none⟩ = some (.int .i64 s.mo) := hg1.cell (by simp [go_sem]) (by simp [Value.ownBlock]; try omega)
    have z5 : w1.cell? ⟨w.heap.size + 1, 5, none⟩ = some (.int .i64 0) := hg1.cell (by simp [go_sem]) (by simp [Value.ownBlock])
    have g5 : w1.frozen? ⟨w.heap.size + 1, 5, none⟩ = false := by
      rw [World.frozen?_of_block (hg1.block _ (by first | (simp; done) | (simp; omega)) (by simp [Value.ownBlock]))]
      simp [go_sem]
    have a6 : w1.cell? ⟨w.heap.size, 6, none⟩ = some (.slice (some ad) n c) := hg1.cell (by simp [go_sem]) (by simp [Value.ownBlock]; try omega)
    have z6 : w1.cell? ⟨w.heap.size + 1, 6, none⟩ = some (.slice none 0 0) := hg1.cell (by simp [go_sem]) (by simp [Value.ownBlock])
    have g6 : w1.frozen? ⟨w.heap.size + 1, 6, none⟩ = false := by
      rw [World.frozen?_of_block (hg1.block _ (by first | (simp; done) | (simp; omega)) (by simp [Value.ownBlock]))]
      simp [go_sem]
    have g9 : w1.frozen? ⟨w.heap.size, 6, none⟩ = false := by
      rw [World.frozen?_of_block (hg1.block _ (by first | (simp; done) | (simp; omega)) (by simp [Value.ownBlock]; try omega))]
      simp [go_sem]
    have hB1 : Below w.heap.size w w1 := hbb.grown hg1 hbb.size (fun q hq => by simp [Value.ownBlock] at hq; omega)
    have hs1 : w.heap.size + 3 ≤ w1.heap.size := by have := hg1.size; simp at this; omega
    have hne : ∀ q, v'.ownBlock = some q → w.heap.size + 2 ≤ q := fun q hq => by
      rcases hat with e | e <;> rw [e] at hq <;> simp [Value.ownBlock] at hq <;> omega
    clear hat hg1 hh
    obtain ⟨B, cc, rfl⟩ := (OwR.of_own hown1).form
    have ow := OwNo.range hown1
    have HNE := Lib.hid hne
    clear hown1 hown hne
    go_wp2_with fail
    refine bodyPost_ret (v := .agg #[.int .i64 s.nm, .int .i64 s.fr, .int .i64 s.to, .int .i64 s.jo, .int .i64 s.ra, .int .i64 s.mo, .slice B n cc]) (by simp [results, Try.results70, go_sem, z0, z1, z2, z3, z4, z5, z6]) rfl ⟨_, _, rfl, ?_, (by (repeat (first | (with_reducible exact Below.refl _ _) | (with_reducible assumption) | (with_reducible refine Below.drew ?_) | (with_reducible refine below_drewN ?_ _) | ((with_reducible refine Below.setCell ?_ ?_ _); rotate_left; focus (first | (simp; done) | omega | (simp; omega))) | ((with_reducible refine Below.alloc ?_ ?_ _); rotate_left; focus (first | exact Nat.le_refl _ | omega | (simp; done) | (simp; omega))))))⟩
    have HQ : ∀ b, b < w.heap.size + 2 → ∀ k, (Value.slice B n cc).ownBlock = some k → b ≠ k := fun b hb k hk => by have := HNE.out k hk; omega
    with_reducible exact ((((((((ow.put' (HQ _ (by omega)) _).put' (HQ _ (by omega)) _).put' (HQ _ (by omega)) _).put' (HQ _ (by omega)) _).put' (HQ _ (by omega)) _).put' (HQ _ (by omega)) _).put' (HQ _ (by omega)) _).put' (HQ _ (by omega)) _)

theorem ru_cells_new (w : World) (xs : List Value) (t : TypeId) : ∀ j u, xs[j]? = some u → (w.alloc (.cells xs.toArray t)).cell? ((⟨w.heap.size, 0, none⟩ : Addr).add j) = some u := by
  intro j u hj
  have ha : Addr.add ⟨w.heap.size, 0, none⟩ j = ⟨w.heap.size, j, none⟩ := by unfold Addr.add; split <;> simp_all
  rw [ha, (Whole.new w t xs.toArray).cell j, List.getElem?_toArray, hj]

theorem ev_base {w : World} {base e size m : Nat} {v : Value} {xs : List Value} (h : w.ownsRow base e size v m xs) : ∀ k, v.ownBlock = some k → base ≤ k := fun k hk => (h.lt k hk).1
set_option maxRecDepth 8000 in
set_option maxHeartbeats 6400000 in
theorem sl10Copy (w : World) (A : Option Addr) (m c : Nat) (R : Nat → Rn) (h : RdRu w w.heap.size A m R) (hm : m ≤ 1048576) (hn : ∀ i, i < m → (R i).n ≤ 1048576) (hA : ∀ i, i < m → (R i).A = none → (R i).n = 0 ∧ (R i).c = 0) :
    Calls Try.prog 69 #[.agg #[.slice A m c]] w fun e w' => ∃ (xs : List Rn) (B : Option Addr) (cc : Nat), e = .returned (.agg #[.slice B xs.length cc]) ∧ xs.length = m ∧ sameL R xs ∧ OwB w' w.heap.size (.slice B xs.length cc) xs ∧ Below w.heap.size w w' := by
  have hmx := h.1
  obtain ⟨i0, hi, hz0, hz1, hz2⟩ := info_parts ru_inf
  have hbb : Below w.heap.size w (((w.alloc (.cells #[.slice A m c] 37)).alloc (.cells #[.slice none 0 0] 37)).alloc (.cells #[.slice none 0 0] 37)) := (by (repeat (first | (with_reducible exact Below.refl _ _) | (with_reducible assumption) | (with_reducible refine Below.drew ?_) | (with_reducible refine below_drewN ?_ _) | ((with_reducible refine Below.setCell ?_ ?_ _); rotate_left; focus (first | (simp; done) | omega | (simp; omega))) | ((with_reducible refine Below.alloc ?_ ?_ _); rotate_left; focus (first | exact Nat.le_refl _ | omega | (simp; done) | (simp; omega))))))
  have HN := Lib.hid hn
  have HA := Lib.hid hA
  clear hn hA
  have pB0 : Whole (((w.alloc (.cells #[.slice A m c] 37)).alloc (.cells #[.slice none 0 0] 37)).alloc (.cells #[.slice none 0 0] 37)) w.heap.size 37 #[.slice A m c] := ((Whole.new w _ _).alloc _).alloc _
  have pR0 : Whole (((w.alloc (.cells #[.slice A m c] 37)).alloc (.cells #[.slice none 0 0] 37)).alloc (.cells #[.slice none 0 0] 37)) (w.heap.size + 1) 37 #[.slice none 0 0] := by have k := (Whole.new (w.alloc (.cells #[.slice A m c] 37)) 37 #[.slice none 0 0]).alloc (.cells #[.slice none 0 0] 37); simpa using k
  have pO0 : Whole (((w.alloc (.cells #[.slice A m c] 37)).alloc (.cells #[.slice none 0 0] 37)).alloc (.cells #[.slice none 0 0] 37)) (w.heap.size + 1 + 1) 37 #[.slice none 0 0] := by have k := Whole.new ((w.alloc (.cells #[.slice A m c] 37)).alloc (.cells #[.slice none 0 0] 37)) 37 #[.slice none 0 0]; simpa using k
  go_enter Try.func69, Try.ntmps69
  go_wp2_with fail
  go_loopw [4] (fun i wr => ∃ (xs : List Rn) (B : Option Addr) (cc : Nat), xs.length ≤ m ∧ i = .int .i64 (xs.length : Int) ∧ Whole wr w.heap.size 37 #[.slice A m c] ∧ Whole wr (w.heap.size + 1) 37 #[.slice none 0 0] ∧ Whole wr (w.heap.size + 1 + 1) 37 #[.slice B xs.length cc] ∧ OwB wr w.heap.size (.slice B xs.length cc) xs ∧ Hid (sameL R xs) ∧ Below w.heap.size w wr) (fun i _ => m - (intOf i).toNat)
  case atStart => exact ⟨[], none, 0, Nat.zero_le _, rfl, pB0, pR0, pO0, OwB.nil _ _, Lib.hid (fun i hi => absurd hi (Nat.not_lt_zero i)), hbb⟩
  case round =>
    clear pB0 pR0 pO0 hbb
    obtain ⟨xs, B, cc, hk, rfl, pB, pR, pO, own, hsm, hbr⟩ := hrel
    have hs1 := hbr.size
    have cB : wr.cell? ⟨w.heap.size, 0, none⟩ = some (.slice A m c) := pB.cell 0
    have cO : wr.cell? ⟨w.heap.size + 1 + 1, 0, none⟩ = some (.slice B xs.length cc) := pO.cell 0
    have zO : w.heap.size + 1 + 1 < wr.heap.size := pO.lt
    by_cases hlt : xs.length < m
    · obtain ⟨⟨b, off, rfl, hbB, h0, h1, h2, h3, h4, h5, h6⟩, hno⟩ := (h.below hbr).2 xs.length hlt
      have hlt2 : (xs.length : Int) < m := by omega
      have hnk := HN.out xs.length hlt
      have hAk := HA.out xs.length hlt
      replace hno := hno.more hs1
      have hb0 : b < wr.heap.size := by omega
      have hn0 : ¬ b = w.heap.size + 1 + 1 := by omega
      have hn1 : ¬ w.heap.size = w.heap.size + 1 + 1 := by omega
      have hnd : ∀ i, i < xs.length → ∀ q, (nsl (xs.getD i Rn.zero)).ownBlock = some q → q < wr.heap.size := fun i hi q hq => ((own.2.1 i hi).lt q hq).2
      have HND := Lib.hid hnd
      clear hnd
      have h0w : w.cell? ⟨b, off + xs.length * 7, none⟩ = some (.int .i64 (R xs.length).s.nm) := (hbr.cell (p := ⟨b, _, none⟩) hbB).symm.trans h0
      have h1w : w.cell? ⟨b, off + xs.length * 7 + 1, none⟩ = some (.int .i64 (R xs.length).s.fr) := (hbr.cell (p := ⟨b, _, none⟩) hbB).symm.trans h1
      have h2w : w.cell? ⟨b, off + xs.length * 7 + 2, none⟩ = some (.int .i64 (R xs.length).s.to) := (hbr.cell (p := ⟨b, _, none⟩) hbB).symm.trans h2
      have h3w : w.cell? ⟨b, off + xs.length * 7 + 3, none⟩ = some (.int .i64 (R xs.length).s.jo) := (hbr.cell (p := ⟨b, _, none⟩) hbB).symm.trans h3
      have h4w : w.cell? ⟨b, off + xs.length * 7 + 4, none⟩ = some (.int .i64 (R xs.length).s.ra) := (hbr.cell (p := ⟨b, _, none⟩) hbB).symm.trans h4
      have h5w : w.cell? ⟨b, off + xs.length * 7 + 5, none⟩ = some (.int .i64 (R xs.length).s.mo) := (hbr.cell (p := ⟨b, _, none⟩) hbB).symm.trans h5
      have h6w : w.cell? ⟨b, off + xs.length * 7 + 6, none⟩ = some (.slice (R xs.length).A (R xs.length).n (R xs.length).c) := (hbr.cell (p := ⟨b, _, none⟩) hbB).symm.trans h6
      go_wp2_with fail
      go_region_law (first
    | ((with_reducible show ite (Region.wanted ⟨some 20, _, _, _, _, _⟩ _ = true) _ _); go_simp; go_at_call 70; refine (sl10Rule _ (R xs.length).s (R xs.length).A (R xs.length).n (R xs.length).c (R xs.length).N (show RdNo wr.drew wr.drew.heap.size _ _ _ from hno) hAk hnk).mono ?_; rintro e w2 ⟨B2, c2, rfl, own2, hb2d⟩; have hb2 : Below wr.heap.size wr w2 := ⟨hb2d.os, hb2d.tape, hb2d.output, hb2d.size, hb2d.block⟩; clear hb2d; obtain ⟨hc2, hf2⟩ := keepc hb2; have hs2 := hb2.size; have hS2 : ((fun w' => w'.cell? ⟨w.heap.size, 0, none⟩ = some (.slice (some ⟨b, off, none⟩) m c) ∧ w'.cell? ⟨b, off + xs.length * 7, none⟩ = some (.int .i64 (R xs.length).s.nm) ∧ w'.cell? ⟨b, off + xs.length * 7 + 1, none⟩ = some (.int .i64 (R xs.length).s.fr) ∧ w'.cell? ⟨b, off + xs.length * 7 + 2, none⟩ = some (.int .i64 (R xs.length).s.to) ∧ w'.cell? ⟨b, off + xs.length * 7 + 3, none⟩ = some (.int .i64 (R xs.length).s.jo) ∧ w'.cell? ⟨b, off + xs.length * 7 + 4, none⟩ = some (.int .i64 (R xs.length).s.ra) ∧ w'.cell? ⟨b, off + xs.length * 7 + 5, none⟩ = some (.int .i64 (R xs.length).s.mo) ∧ w'.cell? ⟨b, off + xs.length * 7 + 6, none⟩ = some (.slice (R xs.length).A (R xs.length).n (R xs.length).c) ∧ w.heap.size + 1 + 1 < w'.heap.size ∧ b < w'.heap.size ∧ Below w.heap.size w w')) w2 := ⟨by rw [hc2 _ _ (by omega)]; exact cB, by rw [hc2 _ _ (by omega)]; exact h0, by rw [hc2 _ _ (by omega)]; exact h1, by rw [hc2 _ _ (by omega)]; exact h2, by rw [hc2 _ _ (by omega)]; exact h3, by rw [hc2 _ _ (by omega)]; exact h4, by rw [hc2 _ _ (by omega)]; exact h5, by rw [hc2 _ _ (by omega)]; exact h6, by omega, by omega, hbr.trans (hb2.mono hs1)⟩; have cO2 : w2.cell? ⟨w.heap.size + 1 + 1, 0, none⟩ = some (.slice B xs.length cc) := (by rw [hc2 _ _ (by omega)]; exact cO); have zO2 : w.heap.size + 1 + 1 < w2.heap.size := (by omega); have zw2 : w.heap.size < w2.heap.size := (by omega); have ownX := own.all hb2; have own2' : OwR w2 wr.heap.size 65 6 (.slice B2 (R xs.length).n c2) (R xs.length).n (noAt (R xs.length).N) := own2; have pB2 := pB.below hb2 pB.lt; have pR2 := pR.below hb2 pR.lt; have pO2 := pO.below hb2 pO.lt; have hbr2 := hbr.trans (hb2.mono hs1); have hn3 : ¬ w2.heap.size = w.heap.size + 1 + 1 := (by omega); have hn4 : ¬ w.heap.size + 1 + 1 = w2.heap.size := (by omega); clear hc2 hf2)
    | ((with_reducible show ite (Region.wanted ⟨some 22, _, _, _, _, _⟩ _ = true) _ _); refine step_append_lies _ (by rfl) (.tmp 14) (.tmp 21) 35 (by rfl) w.heap.size 29 i0 _ 7 72 Try.underlying35 hi hz0 hz1 hz2 rfl (by omega) (.slice B xs.length cc) xs.length (xs.flatMap Rn.cells) (by rfl) (ownX.1.alloc (.cells #[.int .i64 (R xs.length).s.nm, .int .i64 (R xs.length).s.fr, .int .i64 (R xs.length).s.to, .int .i64 (R xs.length).s.jo, .int .i64 (R xs.length).s.ra, .int .i64 (R xs.length).s.mo, .slice B2 (R xs.length).n c2] 29)) ⟨w2.heap.size, 0, none⟩ 1 1 [.int .i64 (R xs.length).s.nm, .int .i64 (R xs.length).s.fr, .int .i64 (R xs.length).s.to, .int .i64 (R xs.length).s.jo, .int .i64 (R xs.length).s.ra, .int .i64 (R xs.length).s.mo, .slice B2 (R xs.length).n c2] (by rfl) (by rfl) (ru_cells_new w2 [.int .i64 (R xs.length).s.nm, .int .i64 (R xs.length).s.fr, .int .i64 (R xs.length).s.to, .int .i64 (R xs.length).s.jo, .int .i64 (R xs.length).s.ra, .int .i64 (R xs.length).s.mo, .slice B2 (R xs.length).n c2] 29) (by simp [Value.oneCell']) (by omega) (by unfold maxLen; omega) (by omega) (by simp; omega) _ rfl ?_; intro g3 c3 w3 own3 hg3 hat3 hlt3; have hbx : Below w2.heap.size w2 (w2.alloc (.cells #[.int .i64 (R xs.length).s.nm, .int .i64 (R xs.length).s.fr, .int .i64 (R xs.length).s.to, .int .i64 (R xs.length).s.jo, .int .i64 (R xs.length).s.ra, .int .i64 (R xs.length).s.mo, .slice B2 (R xs.length).n c2] 29)) := (Below.refl _ _).alloc (Nat.le_refl _) _; have ownY := (ownX.all hbx).snoc (r := ⟨(R xs.length).s, B2, (R xs.length).n, c2, (R xs.length).N⟩) (b := wr.heap.size) HND.out (own2'.all hbx) hs1 hg3 own3; have far := fun {g : Nat} {t : TypeId} {cs : Array Value} (hw : Whole w2 g t cs) (hne : 29 ≠ t) => (hw.alloc (.cells #[.int .i64 (R xs.length).s.nm, .int .i64 (R xs.length).s.fr, .int .i64 (R xs.length).s.to, .int .i64 (R xs.length).s.jo, .int .i64 (R xs.length).s.ra, .int .i64 (R xs.length).s.mo, .slice B2 (R xs.length).n c2] 29)).grown hg3 (fun e => own_apart (ownX.1.alloc (.cells #[.int .i64 (R xs.length).s.nm, .int .i64 (R xs.length).s.fr, .int .i64 (R xs.length).s.to, .int .i64 (R xs.length).s.jo, .int .i64 (R xs.length).s.ra, .int .i64 (R xs.length).s.mo, .slice B2 (R xs.length).n c2] 29)) (hw.alloc (.cells #[.int .i64 (R xs.length).s.nm, .int .i64 (R xs.length).s.fr, .int .i64 (R xs.length).s.to, .int .i64 (R xs.length).s.jo, .int .i64 (R xs.length).s.ra, .int .i64 (R xs.length).s.mo, .slice B2 (R xs.length).n c2] 29)) hne e.symm); have pB3 := far pB2 (by decide); have pR3 := far pR2 (by decide); have pO3 := far pO2 (by decide); clear far; have hB3 : Below w.heap.size w w3 := (hbr2.alloc (by omega) _).grown hg3 (by simp; omega) (ev_base ownX.1); have hs3 := hg3.size; have cO3 : w3.cell? ⟨w.heap.size + 1 + 1, 0, none⟩ = some (.slice B xs.length cc) := pO3.cell 0; have fO3 := pO3.free 0; simp only [World.size_alloc] at hs3; have hS3 : ((fun w' => w'.cell? ⟨w.heap.size, 0, none⟩ = some (.slice (some ⟨b, off, none⟩) m c) ∧ w'.cell? ⟨b, off + xs.length * 7, none⟩ = some (.int .i64 (R xs.length).s.nm) ∧ w'.cell? ⟨b, off + xs.length * 7 + 1, none⟩ = some (.int .i64 (R xs.length).s.fr) ∧ w'.cell? ⟨b, off + xs.length * 7 + 2, none⟩ = some (.int .i64 (R xs.length).s.to) ∧ w'.cell? ⟨b, off + xs.length * 7 + 3, none⟩ = some (.int .i64 (R xs.length).s.jo) ∧ w'.cell? ⟨b, off + xs.length * 7 + 4, none⟩ = some (.int .i64 (R xs.length).s.ra) ∧ w'.cell? ⟨b, off + xs.length * 7 + 5, none⟩ = some (.int .i64 (R xs.length).s.mo) ∧ w'.cell? ⟨b, off + xs.length * 7 + 6, none⟩ = some (.slice (R xs.length).A (R xs.length).n (R xs.length).c) ∧ w.heap.size + 1 + 1 < w'.heap.size ∧ b < w'.heap.size ∧ Below w.heap.size w w')) w3 := ⟨pB3.cell 0, (hB3.cell (p := ⟨b, _, none⟩) (by omega)).trans h0w, (hB3.cell (p := ⟨b, _, none⟩) (by omega)).trans h1w, (hB3.cell (p := ⟨b, _, none⟩) (by omega)).trans h2w, (hB3.cell (p := ⟨b, _, none⟩) (by omega)).trans h3w, (hB3.cell (p := ⟨b, _, none⟩) (by omega)).trans h4w, (hB3.cell (p := ⟨b, _, none⟩) (by omega)).trans h5w, (hB3.cell (p := ⟨b, _, none⟩) (by omega)).trans h6w, by omega, by omega, hB3⟩; clear own3 hat3))
      all_goals
        go_wp2_with fail
        go_roundw
        case rel => exact ⟨xs ++ [⟨(R xs.length).s, B2, (R xs.length).n, c2, (R xs.length).N⟩], some ⟨g3, 0, none⟩, c3, by simp; omega, by simp, pB3.far (p := ⟨w.heap.size + 1 + 1, 0, none⟩) (by show ¬ w.heap.size = w.heap.size + 1 + 1; omega) _, pR3.far (p := ⟨w.heap.size + 1 + 1, 0, none⟩) (by show ¬ w.heap.size + 1 = w.heap.size + 1 + 1; omega) _, by simpa using pO3.put 0 (.slice (some ⟨g3, 0, none⟩) (xs.length + 1) c3), by simpa using ownY.put pO3 (by decide) (by decide) 0 (.slice (some ⟨g3, 0, none⟩) (xs.length + 1) c3), Lib.hid (hsm.out.snoc ⟨rfl, rfl, rfl⟩), hB3.setCell (by show w.heap.size ≤ w.heap.size + 1 + 1; omega) _⟩
        case measure => simp [intOf]; omega
    · have hm_ : m = xs.length := by omega
      have cR : wr.cell? ⟨w.heap.size + 1, 0, none⟩ = some (.slice none 0 0) := pR.cell 0
      have fR := pR.free 0
      have zR := pR.lt
      have HM := Lib.hid hm_
      clear hm_
      have hge : ¬ (xs.length : Int) < m := by omega
      go_wp2_with fail
      refine bodyPost_ret (v := .agg #[.slice B xs.length cc]) (by simp [results, Try.results69, go_sem, cR]) rfl ⟨xs, B, cc, rfl, HM.out.symm, hsm.out, own.put pR (by decide) (by decide) 0 _, hbr.setCell (by simp) _⟩
end Go.Proofs.Ytjnckhdmaebfdaa
