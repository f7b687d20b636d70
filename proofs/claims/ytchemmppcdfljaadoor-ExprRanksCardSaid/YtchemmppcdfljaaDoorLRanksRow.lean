/- ExprRanks: how a pair of values is opened. -/
import Derived.Test.YtchemmppcdfljaaDoorExprRow
namespace Go.Proofs.YtchemmppcdfljaaDoor.Op
open Go.RowKit Go.Proofs.YtchemmppcdfljaaDoorW.PrintWords
theorem pair_open {w : World} {x : V × V} {cs : List Value} (h : (Kd.pair kV kV).K w x cs) : cs = x.1.cells ++ x.2.cells := by
  obtain ⟨c0, c1, rfl, h0, h1⟩ := h
  rw [kV_open h0, kV_open h1]
theorem oVV : Opens Tryd.prog 34 (Kd.pair kV kV) (fun x => gV x.1 ∧ gV x.2) (fun x => mV x.1 + mV x.2) :=
  opens_array2 Tryd.underlying34 (by kernel_rfl) (by kernel_rfl) oV
end Go.Proofs.YtchemmppcdfljaaDoor.Op
