/- Regions that draw their order, only read, and whose callees leave old memory alone: their class of worlds. -/
import Derived.Test.YtbfnmgiccbdglaaBase
import Derived.Deep.QuietTactic
import Derived.BigQuiet
import Derived.Lib.QuietBelow
namespace Go.Proofs.Ytbfnmgiccbdglaa
theorem gr_regrown {w w' : World} (h : ∃ p : Regrown, w' = Go.Sort.grow (redrawn w p.d) p.os) : Gr w w' := by
  obtain ⟨p, rfl⟩ := h
  exact below_regrown _ _ _
theorem Gr.cell {w w' : World} {a : Addr} {v : Value} (h : Gr w w') (k : w.cell? a = some v) : w'.cell? a = some v := by
  rw [Go.RowKit.Below.cell h (World.block_lt_of_cell? w _ k)]
  exact k
end Go.Proofs.Ytbfnmgiccbdglaa
