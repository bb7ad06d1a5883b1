/- Books of rules copied and compared. Conditions: the rules can be read. -/
import Derived.Test.YtjnckhdmaebfdaaBook
namespace Go.Proofs.Ytjnckhdmaebfdaa
open Go.RowKit

theorem ru_inf : (Try.prog.info? 29).map (fun i => (i.zero, i.size, i.bytes)) = some (some (.agg #[.int .i64 0, .int .i64 0, .int .i64 0, .int .i64 0, .int .i64 0, .int .i64 0, .slice none 0 0]), 7, 72) := by kernel_rfl
/-- The rules with their nodes in blocks G. -/
def mkR (R : Nat → Rn) (G : Nat → Nat) (i : Nat) : Rn := ⟨(R i).s, some ⟨G i, 0, none⟩, (R i).n, (R i).n, (R i).N⟩
theorem sameR_mk (R : Nat → Rn) (G : Nat → Nat) (m : Nat) : sameR R (mkR R G) m := fun _ _ => ⟨rfl, rfl, rfl⟩
theorem ruAt_lt {R R' : Nat → Rn} {k j : Nat} (h : ∀ i, i < k → R i = R' i) (hj : j < k * 7) : ruAt R j = ruAt R' j := by
  rw [ruAt, ruAt, h (j / 7) (by omega)]
def updG (G : Nat → Nat) (k g i : Nat) : Nat := if i = k then g else G i
theorem updG_same (G : Nat → Nat) (k g : Nat) : updG G k g k = g := by rw [updG, if_pos rfl]
theorem updG_lt (G : Nat → Nat) {k i : Nat} (g : Nat) (h : i < k) : updG G k g i = G i := by rw [updG, if_neg (by omega)]
/-- What a copy of m rules leaves: the row in block g, the nodes in blocks G, which rise. -/
def CopR (w : World) (g m : Nat) (R : Nat → Rn) (G : Nat → Nat) : Prop :=
  w.rowIs g 29 (m * 7) (ruAt (mkR R G)) ∧ (∀ i, i < m → g < G i ∧ w.rowIs (G i) 65 ((R i).n * 6) (noAt (R i).N)) ∧ ∀ i j, i < j → j < m → G i < G j
theorem CopR.rd {w : World} {g m : Nat} {R : Nat → Rn} {G : Nat → Nat} (h : CopR w g m R G) (hm : m ≤ 1048576) (hn : ∀ i, i < m → (R i).n ≤ 1048576) : RdRu w w.heap.size (some ⟨g, 0, none⟩) m (mkR R G) :=
  RdRu.row h.1 h.1.lt (Nat.le_refl _) (by omega) fun i hi => RdNo.row (h.2.1 i hi).2 (h.2.1 i hi).2.lt (Nat.le_refl _) (Nat.le_trans (hn i hi) (by omega))
theorem CopR.below {w w' : World} {g m : Nat} {R : Nat → Rn} {G : Nat → Nat} (h : CopR w g m R G) (hb : Below w.heap.size w w') : CopR w' g m R G :=
  ⟨h.1.of_block (hb.block _ h.1.lt), fun i hi => ⟨(h.2.1 i hi).1, (h.2.1 i hi).2.of_block (hb.block _ (h.2.1 i hi).2.lt)⟩, h.2.2⟩

set_option maxRecDepth 8000 in
set_option maxHeartbeats 3200000 in
theorem toRules (w : World) (A : Option Addr) (m c : Nat) (R : Nat → Rn) (h : RdRu w w.heap.size A m R) (hm : m ≤ 1048576) (hn : ∀ i, i < m → (R i).n ≤ 1048576) :
    Calls Try.prog 64 #[.slice A m c] w fun e w' => ∃ (g : Nat) (G : Nat → Nat), e = .returned (.slice (some ⟨g, 0, none⟩) m m) ∧ CopR w' g m R G ∧ w.heap.size ≤ g ∧ Below w.heap.size w w' := by
  obtain ⟨i0, hi, hz0, hz1, hz2⟩ := info_parts ru_inf
  have HN := Lib.hid hn
  clear hn
  go_enter Try.func64, Try.ntmps64
  go_wp2_with (refine wpList_make_full _ rfl (.tmp 6) (.tmp 6) 35 rfl w.heap.size 29 i0 (.agg #[.int .i64 0, .int .i64 0, .int .i64 0, .int .i64 0, .int .i64 0, .int .i64 0, .slice none 0 0]) 7 Try.underlying35 hi hz0 hz1 .i64 .i64 (m : Int) (m : Int) m rfl rfl rfl rfl ?c1 ?c2 (Nat.le_refl _) ?_)
  case c1 => rw [hz2]; omega
  case c2 => unfold maxLen; omega
  intro w1 hown hg1
  obtain ⟨hrow, hg⟩ := row_of_own hown
  obtain ⟨M0, hrow⟩ : ∃ M0, w1.rowIs w.heap.size 29 (m * 7) M0 := ⟨_, hrow⟩
  have hb1 : Below w.heap.size w w1 := (Below.refl _ _).grown hg1 (Nat.le_refl _) (by simp)
  clear hown hg1
  go_wp2_with fail
  go_loopw [4] (fun i wr => ∃ (k : Nat) (G : Nat → Nat), k ≤ m ∧ i = .int .i64 k ∧ wr.rowIs w.heap.size 29 (m * 7) (fun j => if j < k * 7 then ruAt (mkR R G) j else M0 j) ∧ (∀ i, i < k → w.heap.size < G i ∧ wr.rowIs (G i) 65 ((R i).n * 6) (noAt (R i).N)) ∧ (∀ i j, i < j → j < k → G i < G j) ∧ Below w.heap.size w wr) (fun i _ => m - (intOf i).toNat)
  case atStart => exact ⟨0, fun _ => 0, Nat.zero_le _, rfl, hrow.congr fun j _ => by simp, fun i hi => by omega, fun i j _ hj => by omega, hb1⟩
  case round =>
    obtain ⟨k, G, hk, rfl, hr, hG, hGG, hbr⟩ := hrel
    have HG := Lib.hid hG
    have HGG := Lib.hid hGG
    clear hG hGG
    by_cases hlt : k < m
    · obtain ⟨⟨b, off, rfl, hbB, h0, h1, h2, h3, h4, h5, h6⟩, hno⟩ := h.2 k hlt
      have hnk := HN.out k hlt
      have c0 : wr.cell? ⟨b, off + k * 7, none⟩ = some (.int .i64 (R k).s.nm) := (hbr.cell (p := ⟨b, off + k * 7, none⟩) hbB).trans h0
      have c1 : wr.cell? ⟨b, off + k * 7 + 1, none⟩ = some (.int .i64 (R k).s.fr) := (hbr.cell (p := ⟨b, off + k * 7 + 1, none⟩) hbB).trans h1
      have c2 : wr.cell? ⟨b, off + k * 7 + 2, none⟩ = some (.int .i64 (R k).s.to) := (hbr.cell (p := ⟨b, off + k * 7 + 2, none⟩) hbB).trans h2
      have c3 : wr.cell? ⟨b, off + k * 7 + 3, none⟩ = some (.int .i64 (R k).s.jo) := (hbr.cell (p := ⟨b, off + k * 7 + 3, none⟩) hbB).trans h3
      have c4 : wr.cell? ⟨b, off + k * 7 + 4, none⟩ = some (.int .i64 (R k).s.ra) := (hbr.cell (p := ⟨b, off + k * 7 + 4, none⟩) hbB).trans h4
      have c5 : wr.cell? ⟨b, off + k * 7 + 5, none⟩ = some (.int .i64 (R k).s.mo) := (hbr.cell (p := ⟨b, off + k * 7 + 5, none⟩) hbB).trans h5
      have c6 : wr.cell? ⟨b, off + k * 7 + 6, none⟩ = some (.slice (R k).A (R k).n (R k).c) := (hbr.cell (p := ⟨b, off + k * 7 + 6, none⟩) hbB).trans h6
      have f0 := fun o => hr.frozen o
      have hlt4 : k * 7 + 7 ≤ m * 7 := by omega
      have hs1 := hr.lt
      have hlt2 : (k : Int) < m := by omega
      have hnor := (hno.below hbr).more hbr.size
      clear hno
      go_wp2_with fail
      refine (toRule_any _ (R k).s (R k).A (R k).n (R k).c (R k).N hnor hnk).mono ?_
      rintro e w2 ⟨gk, rfl, rowk, lowk, hb2⟩
      have hr2 := hr.of_block (hb2.block _ hs1)
      have f2 := fun o => hr2.frozen o
      have hbr2 := hbr.trans (hb2.mono hbr.size)
      have hG2 : ∀ i, i < k → w.heap.size < G i ∧ w2.rowIs (G i) 65 ((R i).n * 6) (noAt (R i).N) ∧ G i < gk := fun i hi => ⟨(HG.out i hi).1, (HG.out i hi).2.of_block (hb2.block _ (HG.out i hi).2.lt), by have := (HG.out i hi).2.lt; omega⟩
      have HG2 := Lib.hid hG2
      have hgk : w.heap.size < gk := by omega
      have d0 := hr2.cell (i := k * 7) (by omega)
      have d1 := hr2.cell (i := k * 7 + 1) (by omega)
      have d2 := hr2.cell (i := k * 7 + 2) (by omega)
      have d3 := hr2.cell (i := k * 7 + 3) (by omega)
      have d4 := hr2.cell (i := k * 7 + 4) (by omega)
      have d5 := hr2.cell (i := k * 7 + 5) (by omega)
      have d6 := hr2.cell (i := k * 7 + 6) (by omega)
      clear f0 hr hbr hb2 c0 h0 c1 h1 c2 h2 c3 h3 c4 h4 c5 h5 c6 h6 hbB HG hG2 hnor h
      go_wp2_with fail
      go_roundw
      case rel =>
        refine ⟨k + 1, updG G k gk, by omega, by go_num, ?_, fun i hi => ?_, fun i j hij hj => ?_, ((((((hbr2.setCell (Nat.le_refl _) _).setCell (Nat.le_refl _) _).setCell (Nat.le_refl _) _).setCell (Nat.le_refl _) _).setCell (Nat.le_refl _) _).setCell (Nat.le_refl _) _).setCell (Nat.le_refl _) _⟩
        · refine (((((((hr2.set (k * 7) _).set (k * 7 + 1) _).set (k * 7 + 2) _).set (k * 7 + 3) _).set (k * 7 + 4) _).set (k * 7 + 5) _).set (k * 7 + 6) _).congr fun j hj => ?_
          by_cases e6 : j = k * 7 + 6
          · subst e6
            rw [if_pos (show k * 7 + 6 < (k + 1) * 7 by omega), ruAt6]
            simp [mkR, updG, ruAt6]
          by_cases e5 : j = k * 7 + 5
          · subst e5
            rw [if_pos (show k * 7 + 5 < (k + 1) * 7 by omega), ruAt5]
            simp [mkR, updG, ruAt5]
          by_cases e4 : j = k * 7 + 4
          · subst e4
            rw [if_pos (show k * 7 + 4 < (k + 1) * 7 by omega), ruAt4]
            simp [mkR, updG, ruAt4]
          by_cases e3 : j = k * 7 + 3
          · subst e3
            rw [if_pos (show k * 7 + 3 < (k + 1) * 7 by omega), ruAt3]
            simp [mkR, updG, ruAt3]
          by_cases e2 : j = k * 7 + 2
          · subst e2
            rw [if_pos (show k * 7 + 2 < (k + 1) * 7 by omega), ruAt2]
            simp [mkR, updG, ruAt2]
          by_cases e1 : j = k * 7 + 1
          · subst e1
            rw [if_pos (show k * 7 + 1 < (k + 1) * 7 by omega), ruAt1]
            simp [mkR, updG, ruAt1]
          by_cases e0 : j = k * 7
          · subst e0
            rw [if_pos (show k * 7 < (k + 1) * 7 by omega), ruAt0]
            simp [mkR, updG, ruAt0]
          by_cases e : j < k * 7
          · rw [if_pos (show j < (k + 1) * 7 by omega), ← ruAt_lt (R := mkR R G) (R' := mkR R (updG G k gk)) (k := k) (fun i hi => by rw [mkR, mkR, updG_lt G gk hi]) e]
            simp [e0, e1, e2, e3, e4, e5, e6, e]
          · simp [e0, e1, e2, e3, e4, e5, e6, e, show ¬ j < (k + 1) * 7 by omega]
        · by_cases e : i = k
          · subst e
            rw [updG_same]
            have hne : gk ≠ w.heap.size := by omega
            exact ⟨hgk, ((((((rowk.setOther hne _).setOther hne _).setOther hne _).setOther hne _).setOther hne _).setOther hne _).setOther hne _⟩
          · rw [updG_lt G gk (by omega)]
            obtain ⟨q1, q2, q3⟩ := HG2.out i (by omega)
            have hne : G i ≠ w.heap.size := by omega
            exact ⟨q1, ((((((q2.setOther hne _).setOther hne _).setOther hne _).setOther hne _).setOther hne _).setOther hne _).setOther hne _⟩
        · by_cases e : j = k
          · subst e
            rw [updG_same, updG_lt G gk hij]
            exact (HG2.out i hij).2.2
          · rw [updG_lt G gk (by omega), updG_lt G gk (by omega)]
            exact HGG.out i j hij (by omega)
      case measure => simp [intOf]; omega
    · obtain rfl : k = m := by omega
      go_wp2_with fail
      go_ret
      exact ⟨w.heap.size, G, rfl, ⟨hr.congr fun j hj => by simp [hj], HG.out, HGG.out⟩, Nat.le_refl _, hbr⟩
end Go.Proofs.Ytjnckhdmaebfdaa
