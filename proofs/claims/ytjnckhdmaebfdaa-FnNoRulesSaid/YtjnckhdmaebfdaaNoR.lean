/- The law of a rule that is set ahead of all. No conditions. -/
import Derived.Test.YtjnckhdmaebfdaaBookD
import Derived.Test.YtjnckhdmaebfdaaFig
import Derived.Test.YtjnckhdmaebfdaaIAdd
import Derived.Test.YtjnckhdmaebfdaaPlaces
namespace Go.Proofs.Ytjnckhdmaebfdaa
open Go.RowKit

set_option linter.unusedVariables false
def noN : Nat → No := fun _ => ⟨1, 0, 0, 0, 7, 1⟩
def noRu (nm : Int) : Ru := ⟨nm, 10, 40, 3600, 9, 1⟩
theorem noN_ok : formB 1 noN = true := by decide
theorem drawnQ.name {m : Nat} {R : Nat → Rn} {mo nm : Int} (h : drawnQ m R mo nm) : 1 ≤ nm ∧ nm ≤ 3 := by
  obtain ⟨-, -, ⟨i, hi, h2, -, -⟩, h4, -⟩ := h
  have := h4 i hi
  omega
theorem drawnQ.rank {m : Nat} {R : Nat → Rn} {mo nm : Int} (h : drawnQ m R mo nm) : ∀ i, i < m → (R i).s.ra ≤ 3 := fun i hi => (h.2.2.2.1 i hi).2.2.2
theorem drawnQ.more {m : Nat} {R : Nat → Rn} {mo nm : Int} (h : drawnQ m R mo nm) (A : Option Addr) : bookB (m + 1) (addR R m ⟨noRu nm, A, 1, 1, noN⟩) = true := by
  have hn := h.name
  have h6 := h.2.1.2
  have hb := h.1
  simp only [bookB, Bool.and_eq_true, decide_eq_true_eq] at hb
  have hall : allUp (bookGood (addR R m ⟨noRu nm, A, 1, 1, noN⟩)) (m + 1) = true := by
    rw [allUp, Bool.and_eq_true]
    refine ⟨allUp_mk fun i hi => ?_, ?_⟩
    · have hg := allUp_at hb.1 i hi
      simp only [bookGood, Bool.and_eq_true] at hg ⊢
      rw [addR_lt R _ hi]
      refine ⟨hg.1, allUp_mk fun j hj => ?_⟩
      have := allUp_at hg.2 j hj
      simp only [freeB] at this ⊢
      rw [addR_lt R _ hi, addR_lt R _ (by omega)]
      exact this
    · simp only [bookGood, Bool.and_eq_true]
      rw [addR_same]
      refine ⟨?_, allUp_mk fun j hj => ?_⟩
      · show (inB nm 1 20 && (spanB 10 40 && (inB 3600 1 3600 && (inB 9 0 9 && (inB 1 1 4 && formB 1 noN))))) = true
        rw [noN_ok, inB_t (by omega) (by omega)]
        rfl
      · simp only [freeB]
        rw [addR_same, addR_lt R _ hj]
        have hr := h.rank j hj
        have : ((R j).s.ra == (9 : Int)) = false := by simp; omega
        simp [clash, noRu, this]
  rw [bookB, hall, Bool.true_and, decide_eq_true_eq]
  omega
theorem drawnQ.added {m : Nat} {R : Nat → Rn} {mo nm : Int} (h : drawnQ m R mo nm) (A : Option Addr) : addOk R m ⟨noRu nm, A, 1, 1, noN⟩ = true := by
  rw [addOk, h.1, h.more A]
  rfl
theorem drawnQ.ahead {m : Nat} {R : Nat → Rn} {mo nm : Int} (h : drawnQ m R mo nm) (A : Option Addr) {k jo : Int} (hj : jo < 3600) : ruBest (addR R m ⟨noRu nm, A, 1, 1, noN⟩) nm k jo (m + 1) = if 10 ≤ k ∧ k < 40 then some m else ruBest R nm k jo m := by
  rw [ruBest, addR_same, ruBest_same (addR_sameR R m _) _ _ _ m (Nat.le_refl _)]
  by_cases hk : 10 ≤ k ∧ k < 40
  · have hh : ruHit (noRu nm) nm k jo = true := by
      unfold ruHit
      rw [show ((noRu nm).nm == nm) = true by simp [noRu], decide_eq_true (show (noRu nm).fr ≤ k from hk.1), decide_eq_true (show k < (noRu nm).to from hk.2), decide_eq_true (show jo < (noRu nm).jo from hj)]
      rfl
    rw [if_pos hk, hh, Bool.true_and]
    cases hq : ruBest R nm k jo m with
    | none => rfl
    | some j =>
      have hl := ruBest_lt hq
      have hr := h.rank j hl
      have e : (addR R m ⟨noRu nm, A, 1, 1, noN⟩ j).s.ra < (noRu nm).ra := by rw [addR_lt R _ hl]; show (R j).s.ra < 9; omega
      exact if_pos (decide_eq_true e)
  · have hh : ruHit (noRu nm) nm k jo = false := by
      cases hh : ruHit (noRu nm) nm k jo with
      | false => rfl
      | true =>
        simp only [ruHit, Bool.and_eq_true, decide_eq_true_eq] at hh
        exact absurd ⟨hh.2.1, hh.2.2.1⟩ hk
    rw [if_neg hk, hh]
    simp
theorem figT_novars (m : Nat) (R : Nat → Rn) (name mo jo : Int) (V : Nat → Fr) : figT m R name mo jo 0 V = none := by
  rw [figT]
  split
  · split
    · rfl
    · rename_i j _
      have e : evOne (R j).n 0 (R j).N V = none := by rw [evOne, evAll, if_neg (by simp [varsB, inB])]; rfl
      rw [e]
  · rfl
/-- AddRule of the program at a drawn book and the rule set ahead. -/
theorem iAddNo {m : Nat} {R : Nat → Rn} {mo nm : Int} (hq : drawnQ m R mo nm) (w : World) (D : Option Addr) (cd b : Nat) (h : RdRu w w.heap.size D m R) (h' : RdNo w w.heap.size (some ⟨b, 0, none⟩) 1 noN) (hmc : m ≤ cd) (hcx : cd ≤ 9223372036854775807) :
    Calls Try.prog 39 #[.agg #[.slice D m cd], .agg #[.int .i64 nm, .int .i64 10, .int .i64 40, .int .i64 3600, .int .i64 9, .int .i64 1, .slice (some ⟨b, 0, none⟩) 1 1]] w fun e w' => ∃ (B : Option Addr) (cc : Nat) (Y : Nat → Rn), e = .returned (.tuple #[.agg #[.slice B (m + 1) cc], .bool true]) ∧ sameR (addR R m ⟨noRu nm, some ⟨b, 0, none⟩, 1, 1, noN⟩) Y (m + 1) ∧ m + 1 ≤ cc ∧ cc ≤ 9223372036854775807 ∧ RdRu w' w'.heap.size B (m + 1) Y ∧ Below w.heap.size w w' := by
  have h6 := hq.2.1.2
  refine (iAddRule w D m cd R ⟨noRu nm, some ⟨b, 0, none⟩, 1, 1, noN⟩ h h' (by omega) hmc hcx (fun i hi => Nat.le_trans (hq.n i hi |> fun _ => (fig_n hq.1 i hi).1) (by omega)) (by show 1 ≤ _; omega) hq.2.2.2.2 (fun e => by cases e)).mono ?_
  rintro e w' ⟨xs, B, cc, rfl, hl, hs, own, hb⟩
  have ok := hq.added (some ⟨b, 0, none⟩)
  rw [addN, ok, if_pos rfl] at hl
  have hc := own.cap
  have hsm := hs.same
  have hrd := own.rd
  rw [hl] at hc hsm hrd
  exact ⟨B, cc, _, by rw [ok, hl], hsm, hc.1, by have := hc.2; unfold maxLen at this; omega, hrd, hb⟩

theorem make_nil (w : World) : (Instr.makeSlice 68 (.int .i64 0) (.int .i64 0)).run Try.prog w = .ok (.slice (some ⟨w.heap.size, 0, none⟩) 0 0) (w.alloc (.cells #[] 63)) := by
  obtain ⟨i0, hi, hz0, hz1, hz2⟩ := info_parts fr_inf
  have h := run_make w 68 63 i0 (.agg #[.int .i64 0, .int .i64 0]) Try.underlying68 hi hz0 .i64 .i64 0 0 (Int.le_refl _) (Int.le_refl _) (by omega) (by omega)
  have e : madeCells (Value.agg #[.int .i64 0, .int .i64 0]).cells ((0 : Int).toNat * i0.size) = #[] := Array.eq_empty_of_size_eq_zero (by rw [size_madeCells, show (0 : Int).toNat = 0 from rfl, Nat.zero_mul])
  rw [e] at h
  exact h
theorem rp_cell {w : World} {B n g : Nat} {z : Nat → Int} (h : RdI w B (some ⟨g, 0, none⟩) n z) (i : Nat) (hi : i < n) : g < B ∧ w.cell? ⟨g, i, none⟩ = some (.int .i64 (z i)) := by
  obtain ⟨b', off', e, hb, hc⟩ := h.2 i hi
  injection e with e
  injection e with e1 e2
  subst e1 e2
  rw [Nat.zero_add] at hc
  exact ⟨hb, hc⟩

set_option maxRecDepth 8000 in
set_option maxHeartbeats 3200000 in
theorem walkNoRules (A : Option Addr) (n c : Nat) (w : World) (hb : Bys w w.heap.size A n) :
    Calls Try.prog 12 #[.slice A n c] w fun e w' => e = .returned (.bool true) ∧ Below w.heap.size w w' := by
  have hn := hb.1
  by_cases hbig : (1048576 : Int) < n
  · have hd : decide ((1048576 : Int) < n) = true := by simpa using hbig
    go_enter Try.func12, Try.ntmps12
    go_wp2_with fail
    refine (lBig _ _ _ _ (by omega)).mono ?_
    rintro e w' ⟨rfl, rfl⟩
    go_wp2_with fail
    go_ret
    exact ⟨rfl, Below.refl _ _⟩
  · have hbg : decide ((1048576 : Int) < n) = false := by simpa using hbig
    go_enter Try.func12, Try.ntmps12
    go_wp2_with fail
    refine (lBig _ _ _ _ (by omega)).mono ?_
    rintro e w' ⟨rfl, rfl⟩
    go_wp2_with fail
    refine (sDrawBookR _ _ _ _ hb).mono ?_
    rintro e w1 ⟨m, R, D, cd, mo, nm, rfl, hq, hmc, hcx, rd, hb1⟩
    have hs1 := hb1.size
    have hb0 := hb
    have hnn := hq.name
    have hm6 := hq.2.1
    have hmo := hq.month
    have hmo0 : ¬ mo < 0 := by omega
    have HQ := Lib.hid hq
    clear hq
    have hx1 : Below w1.heap.size w1 (w1.alloc (.cells #[.slice D m cd] 37)) := (by (repeat (first | (with_reducible exact Below.refl _ _) | (with_reducible assumption) | (with_reducible refine Below.drew ?_) | (with_reducible refine below_drewN ?_ _) | ((with_reducible refine Below.setCell ?_ ?_ _); rotate_left; focus (first | (simp; done) | omega | (simp; omega))) | ((with_reducible refine Below.alloc ?_ ?_ _); rotate_left; focus (first | exact Nat.le_refl _ | omega | (simp; done) | (simp; omega))))))
    have hy1 := hx1.size
    replace rd := (rd.below hx1).more hy1
    have hA1 : Below w.heap.size w (w1.alloc (.cells #[.slice D m cd] 37)) := hb1.trans (hx1.mono hb1.size)
    have pK : Whole (w1.alloc (.cells #[.slice D m cd] 37)) (w1.heap.size) 37 #[.slice D m cd] := (Whole.new w1 37 #[.slice D m cd])
    obtain ⟨b1a, hbq1a⟩ : ∃ b, b = w1.heap.size := ⟨_, rfl⟩
    obtain ⟨u1, hu1⟩ : ∃ u, u = (w1.alloc (.cells #[.slice D m cd] 37)) := ⟨_, rfl⟩
    rw [← hu1] at rd pK hA1 hy1
    rw [← hbq1a] at pK
    clear hx1
    go_upto_region 4 with fail
    rw [← hu1]
    rw [← hbq1a]
    clear hu1 hbq1a
    have pKq0 : u1.cell? ⟨b1a, 0, none⟩ = some (.slice D m cd) := pK.cell 0
    have pKz := pK.lt
    go_wp2_with fail
    refine (sPlacesAt u1 A n c (bys_up (hb0.below hA1) hA1.size)).mono ?_
    rintro e w2 ⟨gp, cp, f, rfl, hp0, hp1, hp, hb2⟩
    clear pKq0 pKz
    have hs2 := hb2.size
    replace pK := pK.below hb2 pK.lt
    replace rd := (rd.below hb2).more hs2
    have hB2 : Below w.heap.size w w2 := hA1.trans (hb2.mono hA1.size)
    have rp : RdI w2 w2.heap.size (some ⟨gp, 0, none⟩) 12 f := ⟨by omega, fun j hj => ⟨gp, 0, rfl, hp1, by rw [Nat.zero_add]; exact (hp j hj).1⟩⟩
    have y0a := (hp 0 (by omega)).2.1
    have y1a := (hp 1 (by omega)).2.1
    clear hp hp0 hp1
    have hx2 : Below w2.heap.size w2 ((w2.alloc (.cells #[.int .i64 1, .int .i64 0, .int .i64 0, .int .i64 0, .int .i64 7, .int .i64 1] 65)).alloc (.cells #[.int .i64 nm, .int .i64 10, .int .i64 40, .int .i64 3600, .int .i64 9, .int .i64 1, .slice (some ⟨w2.heap.size, 0, none⟩) 1 1] 29)) := (by (repeat (first | (with_reducible exact Below.refl _ _) | (with_reducible assumption) | (with_reducible refine Below.drew ?_) | (with_reducible refine below_drewN ?_ _) | ((with_reducible refine Below.setCell ?_ ?_ _); rotate_left; focus (first | (simp; done) | omega | (simp; omega))) | ((with_reducible refine Below.alloc ?_ ?_ _); rotate_left; focus (first | exact Nat.le_refl _ | omega | (simp; done) | (simp; omega))))))
    have hy2 := hx2.size
    replace pK := pK.below hx2 pK.lt
    replace rd := (rd.below hx2).more hy2
    replace rp := (rp.below hx2).more hy2
    have hA2 : Below w.heap.size w ((w2.alloc (.cells #[.int .i64 1, .int .i64 0, .int .i64 0, .int .i64 0, .int .i64 7, .int .i64 1] 65)).alloc (.cells #[.int .i64 nm, .int .i64 10, .int .i64 40, .int .i64 3600, .int .i64 9, .int .i64 1, .slice (some ⟨w2.heap.size, 0, none⟩) 1 1] 29)) := hB2.trans (hx2.mono hB2.size)
    have pN : Whole ((w2.alloc (.cells #[.int .i64 1, .int .i64 0, .int .i64 0, .int .i64 0, .int .i64 7, .int .i64 1] 65)).alloc (.cells #[.int .i64 nm, .int .i64 10, .int .i64 40, .int .i64 3600, .int .i64 9, .int .i64 1, .slice (some ⟨w2.heap.size, 0, none⟩) 1 1] 29)) (w2.heap.size) 65 #[.int .i64 1, .int .i64 0, .int .i64 0, .int .i64 0, .int .i64 7, .int .i64 1] := (Whole.new w2 65 #[.int .i64 1, .int .i64 0, .int .i64 0, .int .i64 0, .int .i64 7, .int .i64 1]).alloc _
    obtain ⟨b2a, hbq2a⟩ : ∃ b, b = w2.heap.size := ⟨_, rfl⟩
    have pQ : Whole ((w2.alloc (.cells #[.int .i64 1, .int .i64 0, .int .i64 0, .int .i64 0, .int .i64 7, .int .i64 1] 65)).alloc (.cells #[.int .i64 nm, .int .i64 10, .int .i64 40, .int .i64 3600, .int .i64 9, .int .i64 1, .slice (some ⟨w2.heap.size, 0, none⟩) 1 1] 29)) (w2.heap.size + 1) 29 #[.int .i64 nm, .int .i64 10, .int .i64 40, .int .i64 3600, .int .i64 9, .int .i64 1, .slice (some ⟨w2.heap.size, 0, none⟩) 1 1] := by have h := (Whole.new (w2.alloc (.cells #[.int .i64 1, .int .i64 0, .int .i64 0, .int .i64 0, .int .i64 7, .int .i64 1] 65)) 29 #[.int .i64 nm, .int .i64 10, .int .i64 40, .int .i64 3600, .int .i64 9, .int .i64 1, .slice (some ⟨w2.heap.size, 0, none⟩) 1 1]); simpa using h
    obtain ⟨b2b, hbq2b⟩ : ∃ b, b = w2.heap.size + 1 := ⟨_, rfl⟩
    obtain ⟨u2, hu2⟩ : ∃ u, u = ((w2.alloc (.cells #[.int .i64 1, .int .i64 0, .int .i64 0, .int .i64 0, .int .i64 7, .int .i64 1] 65)).alloc (.cells #[.int .i64 nm, .int .i64 10, .int .i64 40, .int .i64 3600, .int .i64 9, .int .i64 1, .slice (some ⟨w2.heap.size, 0, none⟩) 1 1] 29)) := ⟨_, rfl⟩
    rw [← hu2] at pK rd rp pN pQ hA2 hy2
    rw [← hbq2b] at pQ
    rw [← hbq2a] at pN pQ
    clear hx2
    go_upto_region 6 with fail
    rw [← hu2]
    rw [← hbq2b]
    rw [← hbq2a]
    clear hu2 hbq2a hbq2b
    have hno : RdNo u2 u2.heap.size (some ⟨b2a, 0, none⟩) 1 noN := ⟨by omega, fun i hi => match i, hi with | 0, _ => ⟨b2a, 0, rfl, pN.lt, pN.cell 0, pN.cell 1, pN.cell 2, pN.cell 3, pN.cell 4, pN.cell 5⟩⟩
    have pKq0 : u2.cell? ⟨b1a, 0, none⟩ = some (.slice D m cd) := pK.cell 0
    have pKz := pK.lt
    have pNq0 : u2.cell? ⟨b2a, 0, none⟩ = some (.int .i64 1) := pN.cell 0
    have pNq1 : u2.cell? ⟨b2a, 1, none⟩ = some (.int .i64 0) := pN.cell 1
    have pNq2 : u2.cell? ⟨b2a, 2, none⟩ = some (.int .i64 0) := pN.cell 2
    have pNq3 : u2.cell? ⟨b2a, 3, none⟩ = some (.int .i64 0) := pN.cell 3
    have pNq4 : u2.cell? ⟨b2a, 4, none⟩ = some (.int .i64 7) := pN.cell 4
    have pNq5 : u2.cell? ⟨b2a, 5, none⟩ = some (.int .i64 1) := pN.cell 5
    have pNz := pN.lt
    have pQq0 : u2.cell? ⟨b2b, 0, none⟩ = some (.int .i64 nm) := pQ.cell 0
    have pQq1 : u2.cell? ⟨b2b, 1, none⟩ = some (.int .i64 10) := pQ.cell 1
    have pQq2 : u2.cell? ⟨b2b, 2, none⟩ = some (.int .i64 40) := pQ.cell 2
    have pQq3 : u2.cell? ⟨b2b, 3, none⟩ = some (.int .i64 3600) := pQ.cell 3
    have pQq4 : u2.cell? ⟨b2b, 4, none⟩ = some (.int .i64 9) := pQ.cell 4
    have pQq5 : u2.cell? ⟨b2b, 5, none⟩ = some (.int .i64 1) := pQ.cell 5
    have pQq6 : u2.cell? ⟨b2b, 6, none⟩ = some (.slice (some ⟨b2a, 0, none⟩) 1 1) := pQ.cell 6
    have pQz := pQ.lt
    go_wp2_with fail
    refine (iAddNo HQ.out u2 D cd b2a rd hno hmc hcx).mono ?_
    rintro e w3 ⟨E, ce, Y, rfl, hY, hce, hcx2, rdY, hb3⟩
    clear pKq0 pNq0 pNq1 pNq2 pNq3 pNq4 pNq5 pQq0 pQq1 pQq2 pQq3 pQq4 pQq5 pQq6 pKz pNz pQz
    have hs3 := hb3.size
    replace pK := pK.below hb3 pK.lt
    replace pN := pN.below hb3 pN.lt
    replace pQ := pQ.below hb3 pQ.lt
    replace rd := (rd.below hb3).more hs3
    replace rp := (rp.below hb3).more hs3
    have hB3 : Below w.heap.size w w3 := hA2.trans (hb3.mono hA2.size)
    clear hno
    clear pN pQ
    have hx3 : Below w3.heap.size w3 (w3.alloc (.cells #[.slice E (m + 1) ce] 37)) := (by (repeat (first | (with_reducible exact Below.refl _ _) | (with_reducible assumption) | (with_reducible refine Below.drew ?_) | (with_reducible refine below_drewN ?_ _) | ((with_reducible refine Below.setCell ?_ ?_ _); rotate_left; focus (first | (simp; done) | omega | (simp; omega))) | ((with_reducible refine Below.alloc ?_ ?_ _); rotate_left; focus (first | exact Nat.le_refl _ | omega | (simp; done) | (simp; omega))))))
    have hy3 := hx3.size
    replace pK := pK.below hx3 pK.lt
    replace rd := (rd.below hx3).more hy3
    replace rp := (rp.below hx3).more hy3
    replace rdY := (rdY.below hx3).more hy3
    have hA3 : Below w.heap.size w (w3.alloc (.cells #[.slice E (m + 1) ce] 37)) := hB3.trans (hx3.mono hB3.size)
    have pC : Whole (w3.alloc (.cells #[.slice E (m + 1) ce] 37)) (w3.heap.size) 37 #[.slice E (m + 1) ce] := (Whole.new w3 37 #[.slice E (m + 1) ce])
    obtain ⟨b3a, hbq3a⟩ : ∃ b, b = w3.heap.size := ⟨_, rfl⟩
    obtain ⟨u3, hu3⟩ : ∃ u, u = (w3.alloc (.cells #[.slice E (m + 1) ce] 37)) := ⟨_, rfl⟩
    rw [← hu3] at pK rd rp rdY pC hA3 hy3
    rw [← hbq3a] at pC
    clear hx3
    go_upto_region 7 with fail
    rw [← hu3]
    rw [← hbq3a]
    clear hu3 hbq3a
    have y0 := Int.emod_nonneg (f 0) (show (160 : Int) ≠ 0 by omega)
    have y1 := Int.emod_lt_of_pos (f 0) (show (0 : Int) < 160 by omega)
    have y2 : (f 0).tmod 160 = f 0 % 160 := Int.tmod_eq_emod_of_nonneg y0a
    have z0 := Int.emod_nonneg (f 1) (show (80 : Int) ≠ 0 by omega)
    have z1 := Int.emod_lt_of_pos (f 1) (show (0 : Int) < 80 by omega)
    have z2 : (f 1).tmod 80 = f 1 % 80 := Int.tmod_eq_emod_of_nonneg y1a
    obtain ⟨-, c0⟩ := rp_cell rp 0 (by omega)
    obtain ⟨kk, hkk⟩ : ∃ m, m = f 0 % 160 := ⟨_, rfl⟩
    rw [← hkk] at y0 y1 y2
    obtain ⟨jo, hjo⟩ : ∃ m, m = f 1 % 80 := ⟨_, rfl⟩
    rw [← hjo] at z0 z1 z2
    obtain ⟨x0, hx0⟩ : ∃ x, x = f 0 := ⟨_, rfl⟩
    rw [← hx0] at c0 y2
    clear hkk hjo hx0
    have hYb : bookB (m + 1) Y = true := by rw [bookB_same hY]; exact HQ.out.more _
    have hYn : ∀ i, i < m + 1 → (Y i).n ≤ 1099511627776 := fun i hi => Nat.le_trans (fig_n hYb i hi).1 (by omega)
    have hRY : ruleForL (m + 1) Y nm kk jo = ruNo (if 10 ≤ kk ∧ kk < 40 then some m else ruBest R nm kk jo m) := by rw [ruleForL, if_pos hYb, ruBest_same hY _ _ _ (m + 1) (Nat.le_refl _), HQ.out.ahead _ (by omega)]
    have CR := fun (v : World) (hv : RdRu v v.heap.size E (m + 1) Y) => iRuleFor v E (m + 1) ce Y nm kk jo hv hce hcx2 hYn
    rw [hRY] at CR
    have CS := fun (v : World) (hv : RdRu v v.heap.size D m R) => sRuleFor v D m cd R nm kk jo hv hmc hcx HQ.out.n
    rw [show ruleForL m R nm kk jo = ruNo (ruBest R nm kk jo m) by rw [ruleForL, if_pos HQ.out.1]] at CS
    have CF : ∀ (v : World) (VA : Option Addr) (vc : Nat), RdRu v v.heap.size E (m + 1) Y → Calls Try.prog 42 #[.agg #[.slice E (m + 1) ce], .int .i64 nm, .int .i64 kk, .int .i64 5, .slice VA 0 vc] v fun e w' => e = .returned (.tuple #[.int .i64 0, .int .i64 0, .bool false]) ∧ Below v.heap.size v w' := fun v VA vc hv => by
      have k := iFigure v E (m + 1) ce Y nm kk 5 VA 0 vc (fun _ => (0, 0)) hv hce hcx2 hYn ⟨Nat.zero_le _, fun i hi => absurd hi (Nat.not_lt_zero i)⟩
      rw [figT_novars] at k
      exact k
    obtain ⟨Z, hZ⟩ : ∃ Z : Int, Z = ruNo (ruBest R nm kk jo m) := ⟨_, rfl⟩
    rw [← hZ] at CS
    have CR2 : ¬ (10 ≤ kk ∧ kk < 40) → ∀ (v : World), RdRu v v.heap.size E (m + 1) Y → Calls Try.prog 23 #[.agg #[.slice E (m + 1) ce], .int .i64 nm, .int .i64 kk, .int .i64 jo] v fun e w' => e = .returned (.int .i64 Z) ∧ Below v.heap.size v w' := fun hk v hv => by have k := CR v hv; rw [if_neg hk, ← hZ] at k; exact k
    have CR1 : (10 ≤ kk ∧ kk < 40) → ∀ (v : World), RdRu v v.heap.size E (m + 1) Y → Calls Try.prog 23 #[.agg #[.slice E (m + 1) ce], .int .i64 nm, .int .i64 kk, .int .i64 jo] v fun e w' => e = .returned (.int .i64 (m : Int)) ∧ Below v.heap.size v w' := fun hk v hv => by have k := CR v hv; rw [if_pos hk] at k; exact k
    clear CR hRY hZ hYb hYn hY hb hb0 HQ hnn
    have pKq0 : u3.cell? ⟨b1a, 0, none⟩ = some (.slice D m cd) := pK.cell 0
    have pKz := pK.lt
    have pCq0 : u3.cell? ⟨b3a, 0, none⟩ = some (.slice E (m + 1) ce) := pC.cell 0
    have pCz := pC.lt
    go_upto_region 8 with fail
    clear pKq0 pCq0 pKz pCz
    clear c0
    by_cases hk : 10 ≤ kk ∧ kk < 40
    · have CQ := CR1 hk
      obtain ⟨h1, h2⟩ := hk
      clear CR1 CR2 CS
      obtain ⟨hgp, c1⟩ := rp_cell rp 1 (by omega)
      obtain ⟨x1, hx1⟩ : ∃ x, x = f 1 := ⟨_, rfl⟩
      have z3 := z2
      rw [← hx1] at c1 z3
      clear hx1
      obtain ⟨S, hSd⟩ : ∃ S : World → Prop, S = fun v => Below u3.heap.size u3 v := ⟨_, rfl⟩
      have hS0 : S u3.drew := by rw [hSd]; exact Below.drew (Below.refl _ _)
      have hkeep : ∀ (u u' : World), S u → Below u.heap.size u u' → S u' := by
        intro u u' hu hb
        rw [hSd] at hu ⊢
        exact Below.trans hu (hb.mono hu.size)
      have hSend : ∀ u, S u → Below u3.heap.size u3 u := by intro u hu; rw [hSd] at hu; exact hu
      have hne0 : Nonempty (InClass S) := ⟨⟨_, hS0⟩⟩
      clear hSd
      have kcell : ∀ (x : InClass S) (p : Addr) (v : Value), p.block < u3.heap.size → u3.cell? p = some v → x.w.cell? p = some v := fun x p v hp hv => ((hSend _ x.h).cell hp).trans hv
      have k0 : ∀ x : InClass S, x.w.cell? ⟨b3a, 0, none⟩ = some (.slice E (m + 1) ce) := fun x => kcell x _ _ pC.lt (pC.cell 0)
      have k1 : ∀ x : InClass S, x.w.cell? ⟨gp, 1, none⟩ = some (.int .i64 x1) := fun x => kcell x _ _ hgp c1
      have CX := fun (x : InClass S) => CQ x.w ((rdY.below (hSend _ x.h)).more (hSend _ x.h).size)
      clear kcell
      refine wp_region_class (S := S) (by kernel_rfl) (by kernel_rfl) hS0 ?_
      repeat (go_big_quiet_step ((go_at_call 23; exact class_call (CX _) hkeep)))
      refine wpQuiet_nil ?_
      rintro w5 ⟨x5, hx5⟩
      have hS5 := hSend w5 (by rw [hx5]; exact x5.h)
      clear hx5 x5
      clear hkeep hSend hne0 hS0 CX k0 k1 c1 CQ hgp z3
      have hsz5 := hS5.size
      replace pK := pK.below hS5 pK.lt
      replace pC := pC.below hS5 pC.lt
      replace rd := (rd.below hS5).more hsz5
      replace rp := (rp.below hS5).more hsz5
      replace rdY := (rdY.below hS5).more hsz5
      have hB5x : Below w.heap.size w w5 := hA3.trans (hS5.mono hA3.size)
      clear hS5
      have wm : IntKind.i64.wrap ((m : Int) + 1) = (m : Int) + 1 := IntWalk.i64_in _ ⟨by omega, by omega⟩
      have pKq0 : w5.cell? ⟨b1a, 0, none⟩ = some (.slice D m cd) := pK.cell 0
      have pKz := pK.lt
      have pCq0 : w5.cell? ⟨b3a, 0, none⟩ = some (.slice E (m + 1) ce) := pC.cell 0
      have pCz := pC.lt
      have h3 : ¬ kk < 10 := by omega
      go_upto_region 12 with fail
      clear pKq0 pCq0 pKz pCz
      have hmk := make_nil
      have pCq0 : w5.cell? ⟨b3a, 0, none⟩ = some (.slice E (m + 1) ce) := pC.cell 0
      have pCz := pC.lt
      have pKz := pK.lt
      go_region_with (first
      | (go_at_call 42; refine (CF _ _ _ (RdRu.more (RdRu.below rdY (show Below w5.heap.size w5 _ from (by (repeat (first | (with_reducible exact Below.refl _ _) | (with_reducible assumption) | (with_reducible refine Below.drew ?_) | (with_reducible refine below_drewN ?_ _) | ((with_reducible refine Below.setCell ?_ ?_ _); rotate_left; focus (first | (simp; done) | omega | (simp; omega))) | ((with_reducible refine Below.alloc ?_ ?_ _); rotate_left; focus (first | exact Nat.le_refl _ | omega | (simp; done) | (simp; omega)))))))) (by simp))).mono ?_; rintro e w9 ⟨rfl, hb9⟩; have hx9 : Below w5.heap.size w5 w9 := (show Below w5.heap.size w5 _ from (by (repeat (first | (with_reducible exact Below.refl _ _) | (with_reducible assumption) | (with_reducible refine Below.drew ?_) | (with_reducible refine below_drewN ?_ _) | ((with_reducible refine Below.setCell ?_ ?_ _); rotate_left; focus (first | (simp; done) | omega | (simp; omega))) | ((with_reducible refine Below.alloc ?_ ?_ _); rotate_left; focus (first | exact Nat.le_refl _ | omega | (simp; done) | (simp; omega))))))).trans (hb9.mono (by simp)); have kq9 : w9.cell? ⟨b1a, 0, none⟩ = some (.slice D m cd) := (hx9.cell (p := ⟨b1a, 0, none⟩) pK.lt).trans (pK.cell 0); clear hb9))
      all_goals
        go_wp2_with fail
        go_ret
        exact ⟨ret_bool (by simp), hB5x.trans (hx9.mono hB5x.size)⟩
    · by_cases hl : kk < 10
      · have CQ := CR2 (by omega)
        clear CR1 CR2 CF
        obtain ⟨hgp, c1⟩ := rp_cell rp 1 (by omega)
        obtain ⟨x1, hx1⟩ : ∃ x, x = f 1 := ⟨_, rfl⟩
        have z3 := z2
        rw [← hx1] at c1 z3
        clear hx1
        obtain ⟨S, hSd⟩ : ∃ S : World → Prop, S = fun v => Below u3.heap.size u3 v := ⟨_, rfl⟩
        have hS0 : S u3.drew := by rw [hSd]; exact Below.drew (Below.refl _ _)
        have hkeep : ∀ (u u' : World), S u → Below u.heap.size u u' → S u' := by
          intro u u' hu hb
          rw [hSd] at hu ⊢
          exact Below.trans hu (hb.mono hu.size)
        have hSend : ∀ u, S u → Below u3.heap.size u3 u := by intro u hu; rw [hSd] at hu; exact hu
        have hne0 : Nonempty (InClass S) := ⟨⟨_, hS0⟩⟩
        clear hSd
        have kcell : ∀ (x : InClass S) (p : Addr) (v : Value), p.block < u3.heap.size → u3.cell? p = some v → x.w.cell? p = some v := fun x p v hp hv => ((hSend _ x.h).cell hp).trans hv
        have k0 : ∀ x : InClass S, x.w.cell? ⟨b3a, 0, none⟩ = some (.slice E (m + 1) ce) := fun x => kcell x _ _ pC.lt (pC.cell 0)
        have k1 : ∀ x : InClass S, x.w.cell? ⟨gp, 1, none⟩ = some (.int .i64 x1) := fun x => kcell x _ _ hgp c1
        have CX := fun (x : InClass S) => CQ x.w ((rdY.below (hSend _ x.h)).more (hSend _ x.h).size)
        clear kcell
        refine wp_region_class (S := S) (by kernel_rfl) (by kernel_rfl) hS0 ?_
        repeat (go_big_quiet_step ((go_at_call 23; exact class_call (CX _) hkeep)))
        refine wpQuiet_nil ?_
        rintro w5 ⟨x5, hx5⟩
        have hS5 := hSend w5 (by rw [hx5]; exact x5.h)
        clear hx5 x5
        clear hkeep hSend hne0 hS0 CX k0 k1 c1 CQ hgp z3
        have hsz5 := hS5.size
        replace pK := pK.below hS5 pK.lt
        replace pC := pC.below hS5 pC.lt
        replace rd := (rd.below hS5).more hsz5
        replace rp := (rp.below hS5).more hsz5
        replace rdY := (rdY.below hS5).more hsz5
        have hB5x : Below w.heap.size w w5 := hA3.trans (hS5.mono hA3.size)
        clear hS5
        have wm : IntKind.i64.wrap ((m : Int) + 1) = (m : Int) + 1 := IntWalk.i64_in _ ⟨by omega, by omega⟩
        have pKq0 : w5.cell? ⟨b1a, 0, none⟩ = some (.slice D m cd) := pK.cell 0
        have pKz := pK.lt
        have pCq0 : w5.cell? ⟨b3a, 0, none⟩ = some (.slice E (m + 1) ce) := pC.cell 0
        have pCz := pC.lt
        have h3 : ¬ 10 ≤ kk := by omega
        go_upto_region 14 with fail
        clear pKq0 pCq0 pKz pCz
        obtain ⟨hgp, c1⟩ := rp_cell rp 1 (by omega)
        obtain ⟨x1, hx1⟩ : ∃ x, x = f 1 := ⟨_, rfl⟩
        have z3 := z2
        rw [← hx1] at c1 z3
        clear hx1
        obtain ⟨S, hSd⟩ : ∃ S : World → Prop, S = fun v => Below w5.heap.size w5 v := ⟨_, rfl⟩
        have hS0 : S w5.drew := by rw [hSd]; exact Below.drew (Below.refl _ _)
        have hkeep : ∀ (u u' : World), S u → Below u.heap.size u u' → S u' := by
          intro u u' hu hb
          rw [hSd] at hu ⊢
          exact Below.trans hu (hb.mono hu.size)
        have hSend : ∀ u, S u → Below w5.heap.size w5 u := by intro u hu; rw [hSd] at hu; exact hu
        have hne0 : Nonempty (InClass S) := ⟨⟨_, hS0⟩⟩
        clear hSd
        have kcell : ∀ (x : InClass S) (p : Addr) (v : Value), p.block < w5.heap.size → w5.cell? p = some v → x.w.cell? p = some v := fun x p v hp hv => ((hSend _ x.h).cell hp).trans hv
        have k0 : ∀ x : InClass S, x.w.cell? ⟨b1a, 0, none⟩ = some (.slice D m cd) := fun x => kcell x _ _ pK.lt (pK.cell 0)
        have k1 : ∀ x : InClass S, x.w.cell? ⟨gp, 1, none⟩ = some (.int .i64 x1) := fun x => kcell x _ _ hgp c1
        have CX := fun (x : InClass S) => CS x.w ((rd.below (hSend _ x.h)).more (hSend _ x.h).size)
        clear kcell
        refine wp_region_class (S := S) (by kernel_rfl) (by kernel_rfl) hS0 ?_
        repeat (go_big_quiet_step ((go_at_call 31; exact class_call (CX _) hkeep)))
        refine wpQuiet_nil ?_
        rintro w6 ⟨x5, hx5⟩
        have hS6 := hSend w6 (by rw [hx5]; exact x5.h)
        clear hx5 x5
        go_wp2_with fail
        go_ret
        exact ⟨ret_bool (by simp), hB5x.trans (hS6.mono hB5x.size)⟩
      · have CQ := CR2 (by omega)
        clear CR1 CR2 CF
        obtain ⟨hgp, c1⟩ := rp_cell rp 1 (by omega)
        obtain ⟨x1, hx1⟩ : ∃ x, x = f 1 := ⟨_, rfl⟩
        have z3 := z2
        rw [← hx1] at c1 z3
        clear hx1
        obtain ⟨S, hSd⟩ : ∃ S : World → Prop, S = fun v => Below u3.heap.size u3 v := ⟨_, rfl⟩
        have hS0 : S u3.drew := by rw [hSd]; exact Below.drew (Below.refl _ _)
        have hkeep : ∀ (u u' : World), S u → Below u.heap.size u u' → S u' := by
          intro u u' hu hb
          rw [hSd] at hu ⊢
          exact Below.trans hu (hb.mono hu.size)
        have hSend : ∀ u, S u → Below u3.heap.size u3 u := by intro u hu; rw [hSd] at hu; exact hu
        have hne0 : Nonempty (InClass S) := ⟨⟨_, hS0⟩⟩
        clear hSd
        have kcell : ∀ (x : InClass S) (p : Addr) (v : Value), p.block < u3.heap.size → u3.cell? p = some v → x.w.cell? p = some v := fun x p v hp hv => ((hSend _ x.h).cell hp).trans hv
        have k0 : ∀ x : InClass S, x.w.cell? ⟨b3a, 0, none⟩ = some (.slice E (m + 1) ce) := fun x => kcell x _ _ pC.lt (pC.cell 0)
        have k1 : ∀ x : InClass S, x.w.cell? ⟨gp, 1, none⟩ = some (.int .i64 x1) := fun x => kcell x _ _ hgp c1
        have CX := fun (x : InClass S) => CQ x.w ((rdY.below (hSend _ x.h)).more (hSend _ x.h).size)
        clear kcell
        refine wp_region_class (S := S) (by kernel_rfl) (by kernel_rfl) hS0 ?_
        repeat (go_big_quiet_step ((go_at_call 23; exact class_call (CX _) hkeep)))
        refine wpQuiet_nil ?_
        rintro w5 ⟨x5, hx5⟩
        have hS5 := hSend w5 (by rw [hx5]; exact x5.h)
        clear hx5 x5
        clear hkeep hSend hne0 hS0 CX k0 k1 c1 CQ hgp z3
        have hsz5 := hS5.size
        replace pK := pK.below hS5 pK.lt
        replace pC := pC.below hS5 pC.lt
        replace rd := (rd.below hS5).more hsz5
        replace rp := (rp.below hS5).more hsz5
        replace rdY := (rdY.below hS5).more hsz5
        have hB5x : Below w.heap.size w w5 := hA3.trans (hS5.mono hA3.size)
        clear hS5
        have wm : IntKind.i64.wrap ((m : Int) + 1) = (m : Int) + 1 := IntWalk.i64_in _ ⟨by omega, by omega⟩
        have pKq0 : w5.cell? ⟨b1a, 0, none⟩ = some (.slice D m cd) := pK.cell 0
        have pKz := pK.lt
        have pCq0 : w5.cell? ⟨b3a, 0, none⟩ = some (.slice E (m + 1) ce) := pC.cell 0
        have pCz := pC.lt
        have h3 : 10 ≤ kk := by omega
        have h4 : ¬ kk < 40 := by omega
        go_upto_region 14 with fail
        clear pKq0 pCq0 pKz pCz
        obtain ⟨hgp, c1⟩ := rp_cell rp 1 (by omega)
        obtain ⟨x1, hx1⟩ : ∃ x, x = f 1 := ⟨_, rfl⟩
        have z3 := z2
        rw [← hx1] at c1 z3
        clear hx1
        obtain ⟨S, hSd⟩ : ∃ S : World → Prop, S = fun v => Below w5.heap.size w5 v := ⟨_, rfl⟩
        have hS0 : S w5.drew := by rw [hSd]; exact Below.drew (Below.refl _ _)
        have hkeep : ∀ (u u' : World), S u → Below u.heap.size u u' → S u' := by
          intro u u' hu hb
          rw [hSd] at hu ⊢
          exact Below.trans hu (hb.mono hu.size)
        have hSend : ∀ u, S u → Below w5.heap.size w5 u := by intro u hu; rw [hSd] at hu; exact hu
        have hne0 : Nonempty (InClass S) := ⟨⟨_, hS0⟩⟩
        clear hSd
        have kcell : ∀ (x : InClass S) (p : Addr) (v : Value), p.block < w5.heap.size → w5.cell? p = some v → x.w.cell? p = some v := fun x p v hp hv => ((hSend _ x.h).cell hp).trans hv
        have k0 : ∀ x : InClass S, x.w.cell? ⟨b1a, 0, none⟩ = some (.slice D m cd) := fun x => kcell x _ _ pK.lt (pK.cell 0)
        have k1 : ∀ x : InClass S, x.w.cell? ⟨gp, 1, none⟩ = some (.int .i64 x1) := fun x => kcell x _ _ hgp c1
        have CX := fun (x : InClass S) => CS x.w ((rd.below (hSend _ x.h)).more (hSend _ x.h).size)
        clear kcell
        refine wp_region_class (S := S) (by kernel_rfl) (by kernel_rfl) hS0 ?_
        repeat (go_big_quiet_step ((go_at_call 31; exact class_call (CX _) hkeep)))
        refine wpQuiet_nil ?_
        rintro w6 ⟨x5, hx5⟩
        have hS6 := hSend w6 (by rw [hx5]; exact x5.h)
        clear hx5 x5
        go_wp2_with fail
        go_ret
        exact ⟨ret_bool (by simp), hB5x.trans (hS6.mono hB5x.size)⟩
end Go.Proofs.Ytjnckhdmaebfdaa
