/- Proved here: what the listed variable holds when a call begins gives the walks' premise on the table of the months' lengths (LD.of_laid), and the door's own heap meets the condition (LD.door_met). -/
import Derived.Test.YtpodgkmgameocaaDoorRows
import Derived.Test.YtpodgkmgameocaaDoorXGlob
import Derived.ProofKit
import Derived.LaidMore
import Derived.OpenShut
import Derived.Stop.Joined
namespace Go.Proofs.YtpodgkmgameocaaDoor.LD
open Go Go.ChangeShapes Go.WideShapes Go.ChangeAt Go.WideMaps Go.WideElems Go.RowKit
theorem own : ownKnob Tryd.prog.godebug = none := by kernel_rfl
theorem gLens : Tryd.prog.globalNamed "fasti/days.lengths" = some 0 := by kernel_rfl
theorem tLens : (Tryd.prog.globals[0]?).map (·.type) = some 50 := by kernel_rfl
abbrev laidL : List (String × DataW Unit) := [("fasti/days.lengths", Rows.laid_fasti_days_lengths)]
theorem door_met (os : Os) (args : Array Value) : laidMetH Tryd.prog laidL ((World.doorLaid Tryd.prog 400 os).forCall (fun _ _ => 0) ⟨#[], args, []⟩).memory :=
  laidMetH_of_parts3 (fuel := 8) (laidMet_of_run' 8 (by kernel_rfl) (by kernel_rfl)) (by kernel_rfl) (by kernel_rfl)
theorem of_laid {W : World} (h : laidMetH Tryd.prog laidL W) : X.GL.Glob W := by
  rw [MakeChecks.laidMetH_plain _ _ _ (by kernel_rfl)] at h
  obtain ⟨ps, ⟨g0, t0, cs0, f0, p0, q0, hg0, ht0, hv0, hd0, _⟩, _⟩ := h
  obtain rfl := Option.some.inj (gLens.symm.trans hg0)
  obtain rfl := Option.some.inj (tLens.symm.trans ht0)
  obtain ⟨xs, m1, rfl, hx1, hlen, hn3, hel⟩ := DataW.trod_array Tryd.underlying50 hd0
  have c3 : Tryd.prog.cellsOf 3 = 1 := by kernel_rfl
  have c50 : Tryd.prog.cellsOf 50 = 12 := by kernel_rfl
  simp only [Prod.mk.injEq, Rows.laid_fasti_days_lengths, DataW.agg.injEq] at hx1
  intro i hi
  have hxi : i < xs.length := by omega
  have h0 := hel i hi
  rw [List.getElem?_eq_getElem hxi, c3] at h0
  obtain ⟨k, e1, e2, _⟩ := DataW.trod_int Tryd.underlying3 h0
  have hk := congrArg (fun l => l[i]?) hx1.1
  simp only [List.getElem?_map, List.getElem?_eq_getElem hxi, Option.map_some, e2] at hk
  have hcell := World.var?_cell hg0 hv0 i
  have hci : cs0.toList[i]? = some (.int .i64 k) := by
    have := congrArg (fun l => l[0]?) e1
    simpa using this
  have hkk : k = X.GL.lens.getD i 0 := by
    match i, hi with
    | 0, _ | 1, _ | 2, _ | 3, _ | 4, _ | 5, _ | 6, _ | 7, _ | 8, _ | 9, _ | 10, _ | 11, _ => cases hk; rfl
    | i + 12, hi => omega
  rw [← hkk, ← hci]
  simpa using hcell
end Go.Proofs.YtpodgkmgameocaaDoor.LD
