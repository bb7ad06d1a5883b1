/- The law of a fraction out of a text. Conditions: the variables that the row lists lie as the library lays them. -/
import Derived.Test.YtanpmbiblibgfaaGreatDoorSPar
import Derived.Test.YtanpmbiblibgfaaGreatDoorIPar
import Derived.Test.YtanpmbiblibgfaaGreatDoorGa
import Derived.Stop.LaidErr
namespace Go.Proofs.YtanpmbiblibgfaaGreatDoor
open Go.RowKit Go.Lib
set_option linter.unusedVariables false
theorem sentinelOf {W : World} {nm : String} {g : Nat} {D : DataW Unit} {l : List (String × DataW Unit)} (h : laidMet Tryz.prog l W) (e : l.filter (fun x => x.1 == nm) = [(nm, D)]) (hD : ∃ a d, D = .iface a d)
    (hg : Tryz.prog.globalNamed nm = some g) (ht : (Tryz.prog.globals[g]?).map (·.type) = some 66) : ∃ tp p, W.var? Tryz.prog nm = some #[.iface tp p] := by
  have k := h.filter (fun x => x.1 == nm)
  rw [e] at k
  obtain ⟨a, d, rfl⟩ := hD
  obtain ⟨ps, ⟨g0, t0, cs0, f0, p0, q0, hg0, ht0, hv0, hd0, _, e0⟩, _, hrows⟩ := k
  obtain rfl := Option.some.inj (hg.symm.trans hg0)
  obtain rfl := Option.some.inj (ht.symm.trans ht0)
  obtain ⟨l0⟩ := cs0
  obtain ⟨f1, u, v, e, hn, h1⟩ := iface_of_trod Tryz.underlying66 hd0
  have e2 : l0 = [.iface u v] := by simpa using e
  subst e2
  exact ⟨u, v, hv0⟩

end Go.Proofs.YtanpmbiblibgfaaGreatDoor
