/- ValueMakes: how a column is opened. -/
import Derived.Test.YtmkikigikedjoaaDoorValueRow
import Derived.Test.YtmkikigikedjoaaDoorFits
namespace Go.Proofs.YtmkikigikedjoaaDoor.Op
open Go.RowKit Go.Proofs.YtmkikigikedjoaaDoorW.PrintWords
theorem oCn : Opens Tryd.prog 28 kCn (fun _ => True) (fun x => x.n.size + 3) :=
  opens_mono (fun _ _ => trivial) (fun x => by simp only; omega)
    (opens_iso (b := fun x => ⟨x.1, x.2.1, x.2.2⟩) (fun _ => rfl) (opens_struct Tryd.underlying28 (by kernel_rfl)
      (opensF_cons rfl (by kernel_rfl) rfl (opens_string Tryd.underlying9) (opensF_cons rfl (by kernel_rfl) rfl (opens_int Tryd.underlying3) (opensF_last rfl (by kernel_rfl) (opens_bool Tryd.underlying4))))))
end Go.Proofs.YtmkikigikedjoaaDoor.Op
