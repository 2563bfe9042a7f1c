/- Proved here: what the table of the months' lengths holds, and the closed forms of a date (GL) -/
import Derived.Test.YtpodgkmgameocaaDoorX0
namespace Go.Proofs.YtpodgkmgameocaaDoor.X
open Go.RowKit Go.Proofs.YtpodgkmgameocaaDoorW.PrintWords Go.Proofs.YtpodgkmgameocaaDoorW.PrintLast Go.Proofs.YtpodgkmgameocaaDoorW.PrintMore
attribute [local go_sem] max2_int min2_int max_two min_two max_three min_three max_four min_four
set_option linter.unusedVariables false
set_option linter.unusedSimpArgs false
namespace GL
/-- The lengths of the months, as the table holds them. -/
def lens : List Int := [31, 29, 31, 30, 31, 30, 31, 31, 30, 31, 30, 31]
/-- The package-level table reads so. -/
def Glob (w : World) : Prop := ∀ i, i < 12 → w.cell? ⟨0, i, none⟩ = some (.int .i64 (lens.getD i 0))
theorem Glob.lt {w : World} (h : Glob w) : 0 < w.heap.size := World.block_lt_of_cell? w _ (h 0 (by decide))
theorem gl {w W : World} (h : Glob w) (hb : Below w.heap.size w W) : Glob W := fun i hi => (hb.cell (p := ⟨0, i, none⟩) h.lt).trans (h i hi)
theorem Glob.all {w : World} (h : Glob w) : w.cell? ⟨0, 0, none⟩ = some (.int .i64 31) ∧ w.cell? ⟨0, 1, none⟩ = some (.int .i64 29) ∧ w.cell? ⟨0, 2, none⟩ = some (.int .i64 31) ∧ w.cell? ⟨0, 3, none⟩ = some (.int .i64 30) ∧ w.cell? ⟨0, 4, none⟩ = some (.int .i64 31) ∧ w.cell? ⟨0, 5, none⟩ = some (.int .i64 30) ∧ w.cell? ⟨0, 6, none⟩ = some (.int .i64 31) ∧ w.cell? ⟨0, 7, none⟩ = some (.int .i64 31) ∧ w.cell? ⟨0, 8, none⟩ = some (.int .i64 30) ∧ w.cell? ⟨0, 9, none⟩ = some (.int .i64 31) ∧ w.cell? ⟨0, 10, none⟩ = some (.int .i64 30) ∧ w.cell? ⟨0, 11, none⟩ = some (.int .i64 31) :=
  ⟨h 0 (by decide), h 1 (by decide), h 2 (by decide), h 3 (by decide), h 4 (by decide), h 5 (by decide), h 6 (by decide), h 7 (by decide), h 8 (by decide), h 9 (by decide), h 10 (by decide), h 11 (by decide)⟩
/-- The month and the day of the month. -/
def mgo : List Int → Int → Int → Int × Int
  | [], _, _ => (0, 0)
  | m :: l, k, r => if r < m then (k + 1, r + 1) else mgo l (k + 1) (r - m)
def yearS (n : Int) : Int × Int :=
  let q := n % 1461
  let y := 2000 + n / 1461 * 4
  if 366 ≤ q then (y + (1 + (q - 366) / 365), if 59 ≤ (q - 366) % 365 then (q - 366) % 365 + 1 else (q - 366) % 365) else (y, q)
def ofS (n : Int) : Int × Int × Int × Int :=
  if 0 ≤ n ∧ n ≤ 73048 then
    let p := yearS (if 36584 ≤ n then n + 1 else n)
    (p.1, (mgo lens 0 p.2).1, (mgo lens 0 p.2).2, 0)
  else (0, 0, 0, 1)
end GL
end Go.Proofs.YtpodgkmgameocaaDoor.X
