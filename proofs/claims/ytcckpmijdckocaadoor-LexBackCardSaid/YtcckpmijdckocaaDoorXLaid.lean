/- Proved here: what the listed variables hold when a call begins gives the walks' premise on strconv's variables (LD.of_laid), and the door's own heap meets the condition (LD.door_met). -/
import Derived.Test.YtcckpmijdckocaaDoorRows
import Derived.Test.YtcckpmijdckocaaDoorXGlob
import Derived.ProofKit
import Derived.LaidMore
import Derived.LaidLaws
import Derived.Lib.LaidTab
import Derived.OpenShut
import Derived.Stop.Joined
namespace Go.Proofs.YtcckpmijdckocaaDoor.LD
open Go Go.ChangeShapes Go.WideShapes Go.ChangeAt Go.WideMaps Go.WideElems Go.RowKit
theorem own : ownKnob Tryd.prog.godebug = none := by kernel_rfl
theorem gS : Tryd.prog.globalNamed "strconv.ErrSyntax" = some 0 := by kernel_rfl
theorem gR : Tryd.prog.globalNamed "strconv.ErrRange" = some 1 := by kernel_rfl
theorem gP : Tryd.prog.globalNamed "internal/strconv.uint64pow10" = some 3 := by kernel_rfl
theorem tS : (Tryd.prog.globals[0]?).map (·.type) = some 61 := by kernel_rfl
theorem tR : (Tryd.prog.globals[1]?).map (·.type) = some 61 := by kernel_rfl
theorem tP : (Tryd.prog.globals[3]?).map (·.type) = some 100 := by kernel_rfl
abbrev laidL : List (String × DataW Unit) := [("math/bits.deBruijn32tab", Rows.laid_math_bits_deBruijn32tab), ("math/bits.deBruijn64tab", Rows.laid_math_bits_deBruijn64tab), ("internal/strconv.uint64pow10", Rows.laid_internal_strconv_uint64pow10), ("strconv.ErrRange", Rows.laid_strconv_ErrRange), ("strconv.ErrSyntax", Rows.laid_strconv_ErrSyntax)]
theorem door_met (os : Os) (args : Array Value) : laidMetH Tryd.prog laidL ((World.doorLaid Tryd.prog 400 os).forCall (fun _ _ => 0) ⟨#[], args, []⟩).memory :=
  laidMetH_of_parts3 (fuel := 8) (laidMet_of_run' 8 (by kernel_rfl) (by kernel_rfl)) (by kernel_rfl) (by kernel_rfl)
def VR (w : World) (n : String) (d : DataW Unit) : Prop :=
  ∃ g t cs fuel p, Tryd.prog.globalNamed n = some g ∧ (Tryd.prog.globals[g]?).map (·.type) = some t ∧ w.var? Tryd.prog n = some cs ∧ DataW.trod (fun _ => ()) Tryd.prog w 0 (fun _ => true) false fuel t cs.toList = some (d, p)
theorem vars_reads {w : World} : ∀ {l : List (String × DataW Unit)} {ps : List MemPlace}, DataW.LaidVars Tryd.prog w l ps → ∀ n d, (n, d) ∈ l → VR w n d
  | [], _, _, _, _, hm => by cases hm
  | (n', d') :: r, ps, h, n, d, hm => by
    obtain ⟨g, t, cs, fuel, p, q, h1, h2, h3, h4, h5, _⟩ := h
    rcases List.mem_cons.1 hm with e | e
    · cases e
      exact ⟨g, t, cs, fuel, p, h1, h2, h3, h4⟩
    · exact vars_reads h5 n d e
theorem of_laid {W : World} (h : laidMetH Tryd.prog laidL W) : X.GX.Glob W := by
  rw [MakeChecks.laidMetH_plain _ _ _ (by kernel_rfl)] at h
  obtain ⟨ps, hv, _⟩ := h
  have hS := vars_reads hv "strconv.ErrSyntax" Rows.laid_strconv_ErrSyntax (by simp [laidL])
  have hR := vars_reads hv "strconv.ErrRange" Rows.laid_strconv_ErrRange (by simp [laidL])
  have hP := vars_reads hv "internal/strconv.uint64pow10" Rows.laid_internal_strconv_uint64pow10 (by simp [laidL])
  refine ⟨?_, ?_, ?_⟩
  · obtain ⟨g, t, cs, fuel, p, h1, h2, h3, h4⟩ := hS
    obtain rfl := Option.some.inj (gS.symm.trans h1)
    obtain rfl := Option.some.inj (tS.symm.trans h2)
    obtain ⟨_, u, v, hc, _, _⟩ := iface_of_trod Tryd.underlying61 h4
    have hcell := World.var?_cell h1 h3 0
    refine ⟨.iface u v, ?_, .inr ⟨u, v, rfl⟩⟩
    have h0 : cs.toList[0]? = some (.iface u v) := by rw [hc]; rfl
    rw [← h0]
    simpa using hcell
  · obtain ⟨g, t, cs, fuel, p, h1, h2, h3, h4⟩ := hR
    obtain rfl := Option.some.inj (gR.symm.trans h1)
    obtain rfl := Option.some.inj (tR.symm.trans h2)
    obtain ⟨_, u, v, hc, _, _⟩ := iface_of_trod Tryd.underlying61 h4
    have hcell := World.var?_cell h1 h3 0
    refine ⟨.iface u v, ?_, .inr ⟨u, v, rfl⟩⟩
    have h0 : cs.toList[0]? = some (.iface u v) := by rw [hc]; rfl
    rw [← h0]
    simpa using hcell
  · obtain ⟨g, t, cs, fuel, p, h1, h2, h3, h4⟩ := hP
    obtain rfl := Option.some.inj (gP.symm.trans h1)
    obtain rfl := Option.some.inj (tP.symm.trans h2)
    have hd : (Rows.laid_internal_strconv_uint64pow10 : DataW Unit) = Lib.tabData .u64 Lib.pow10Tab := by kernel_rfl
    rw [hd] at h4
    have hc := Lib.cells_of_tab Tryd.underlying100 Tryd.underlying83 (by kernel_rfl) (by kernel_rfl) h4
    unfold Lib.TabIs
    rw [h3, ← hc]
end Go.Proofs.YtcckpmijdckocaaDoor.LD
