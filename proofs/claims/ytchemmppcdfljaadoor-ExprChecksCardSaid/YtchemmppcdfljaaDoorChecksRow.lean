/- ExprChecks: how columns are opened. -/
import Derived.Test.YtchemmppcdfljaaDoorExprRow
import Derived.Test.YtchemmppcdfljaaDoorCheck
namespace Go.Proofs.YtchemmppcdfljaaDoor.Op
open Go.RowKit Go.Proofs.YtchemmppcdfljaaDoorW.PrintWords
theorem oCn : Opens Tryd.prog 50 kCn (fun _ => True) (fun x => x.n.size + 3) :=
  opens_mono (fun _ _ => trivial) (fun x => by simp only; omega)
    (opens_iso (b := fun x => ⟨x.1, x.2.1, x.2.2⟩) (fun _ => rfl) (opens_struct Tryd.underlying50 (by kernel_rfl)
      (opensF_cons rfl (by kernel_rfl) rfl (opens_string Tryd.underlying9) (opensF_cons rfl (by kernel_rfl) rfl (opens_int Tryd.underlying3) (opensF_last rfl (by kernel_rfl) (opens_bool Tryd.underlying4))))))
theorem oCns : Opens Tryd.prog 40 (Kd.slice 50 kCn) (fun xs => (∀ x ∈ xs, True) ∧ xs.length ≤ 9223372036854775807 ∧ xs.length * 32 ≤ 140737488351232) (fun xs => (xs.map fun x => x.n.size + 3).sum + 1) :=
  opens_slice Tryd.underlying40 (by kernel_rfl) (by kernel_rfl) oCn
end Go.Proofs.YtchemmppcdfljaaDoor.Op
