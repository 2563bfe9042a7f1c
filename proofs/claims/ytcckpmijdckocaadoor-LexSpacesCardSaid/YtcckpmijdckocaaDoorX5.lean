/- Proved here: for functions of the program and of the reference, what each call returns (theorems '.calls'), under the conditions that each theorem names. Printed by this project's own driver over the kit's printer; parts marked EXT are written by hand. Lean checks it. -/
import Derived.Test.YtcckpmijdckocaaDoorX0
import Derived.Test.YtcckpmijdckocaaDoorXShelf
import Derived.Test.YtcckpmijdckocaaDoorXGlob
namespace Go.Proofs.YtcckpmijdckocaaDoor.X
open Go.RowKit Go.Proofs.YtcckpmijdckocaaDoorW.PrintWords Go.Proofs.YtcckpmijdckocaaDoorW.PrintLast Go.Proofs.YtcckpmijdckocaaDoorW.PrintMore
attribute [local go_sem] max2_int min2_int max_two min_two max_three min_three max_four min_four   -- for this text's walks alone
set_option linter.unusedVariables false
set_option linter.unusedSimpArgs false

-- EXT strconv_Itoa: function 37
-- def strconv_Itoa.f (a0 : Int) : Option (ByteArray) := 
-- theorem strconv_Itoa.calls (a0 : Int) (r : ByteArray) (w : World) (h : strconv_Itoa.f a0 = some r) :
--     Calls Tryd.prog 37 #[.int .i64 a0] w fun e w' => e = .returned (.string r) ∧ Below w.heap.size w w'
-- IMPORTS: Derived.Test.YtcckpmijdckocaaDoorXShelf, Derived.Test.YtcckpmijdckocaaDoorXGlob
def strconv_Itoa.f (a0 : Int) : Option (ByteArray) := if -9223372036854775808 ≤ a0 ∧ a0 ≤ 9223372036854775807 then some ⟨(Lib.itoa a0).toArray⟩ else none
theorem strconv_Itoa.calls (a0 : Int) (r : ByteArray) (w : World) (hgl : GX.Glob w) (h : strconv_Itoa.f a0 = some r) :
    Calls Tryd.prog 37 #[.int .i64 a0] w fun e w' => e = .returned (.string r) ∧ Below w.heap.size w w' := by
  unfold strconv_Itoa.f at h
  by_cases hb : -9223372036854775808 ≤ a0 ∧ a0 ≤ 9223372036854775807
  · rw [if_pos hb] at h
    obtain rfl := Option.some.inj h
    refine (Tryd.strconv_Itoa a0 hb.1 hb.2 w hgl.2.2).mono ?_
    rintro e w' ⟨rfl, k, os, rfl⟩
    exact ⟨rfl, GX.below_grow w k os⟩
  · rw [if_neg hb] at h
    cases h

end Go.Proofs.YtcckpmijdckocaaDoor.X
