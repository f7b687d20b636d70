/- How the arguments of layer 18 are opened into the print's kinds. -/
import Derived.Test.YtfepfpcilmaojaaMissing
import Derived.Test.YtfepfpcilmaojaaOpen
namespace Go.Proofs.Ytfepfpcilmaojaa.QV
open Go.RowKit Go.Proofs.YtfepfpcilmaojaaW.PrintWords Go.Proofs.Ytfepfpcilmaojaa.Op
set_option linter.unusedVariables false
theorem oS : Opens Try.prog 36 k36 (fun _ => True) (fun x => x.f3.size + 4) :=
  opens_mono (fun _ _ => trivial) (fun x => by simp only; omega)
    (opens_iso (b := fun x => ⟨x.1, x.2.1, x.2.2.1, x.2.2.2⟩) (fun _ => rfl) (opens_struct Try.underlying36 (by kernel_rfl)
      (opensF_cons rfl (by kernel_rfl) rfl (opens_int Try.underlying3) (opensF_cons rfl (by kernel_rfl) rfl (opens_bool Try.underlying4) (opensF_cons rfl (by kernel_rfl) rfl (opens_int Try.underlying2) (opensF_last rfl (by kernel_rfl) (opens_string Try.underlying9)))))))
theorem oSs : Opens Try.prog 32 (Kd.slice 36 k36) (fun xs => xs.length * 40 ≤ 140737488351232) (fun xs => 1) :=
  opens_mono (fun _ h => h.2.2) (fun xs => by omega) (opens_slice Try.underlying32 (by kernel_rfl) (by kernel_rfl) oS)
theorem oNm : Opens Try.prog tNm k31 (fun x => Nok x) (fun _ => 1) :=
  opens_mono (fun _ h => ⟨h.1, h.2⟩) (fun x => by simp)
    (opens_iso (b := fun x => ⟨x.1, x.2⟩) (fun _ => rfl) (opens_struct Try.underlying31 (by kernel_rfl)
      (opensF_cons rfl (by kernel_rfl) rfl (opens_int Try.underlying23) (opensF_last rfl (by kernel_rfl) (opens_int Try.underlying29)))))
theorem oVer : Opens Try.prog tVer kVer (fun x => Nok x.f0 ∧ x.f1.length * 40 ≤ 140737488351232) (fun _ => 1) :=
  opens_mono (fun _ h => ⟨h.1, h.2.1⟩) (fun x => by omega)
    (opens_iso (b := fun x => ⟨x.1, x.2.1, x.2.2⟩) (fun _ => rfl) (opens_struct Try.underlying34 (by kernel_rfl)
      (opensF_cons rfl (by kernel_rfl) rfl oNm (opensF_cons rfl (by kernel_rfl) rfl oSs (opensF_last rfl (by kernel_rfl) (opens_int Try.underlying23))))))
/-- Versions: all that the walks ask of them. -/
theorem oVers : Opens Try.prog 22 (Kd.slice tVer kVer) (fun xs => okV xs = true ∧ xs.length * 48 ≤ 140737488351232) (fun xs => xs.length + 1) :=
  opens_mono (fun xs h => ⟨(okV_iff xs).2 ⟨fun x hx => (h.1 x hx).1, fun x hx => by have := (h.1 x hx).2; omega, by have := h.2.2; omega⟩, h.2.2⟩)
    (fun xs => by have := len_le_sum (m := fun _ : Ver => 1) (fun _ => by omega) xs; omega) (opens_slice (B := 48) Try.underlying22 (by kernel_rfl) (by kernel_rfl) oVer)
theorem oSg : Opens Try.prog tSg kSg (fun x => Sok x) (fun _ => 1) :=
  opens_mono (fun _ h => ⟨h.1, h.2⟩) (fun x => by simp)
    (opens_iso (b := fun x => ⟨x.1, x.2⟩) (fun _ => rfl) (opens_struct Try.underlying50 (by kernel_rfl)
      (opensF_cons rfl (by kernel_rfl) rfl (opens_int Try.underlying3) (opensF_last rfl (by kernel_rfl) (opens_int Try.underlying3)))))
theorem oSgs : Opens Try.prog 46 (Kd.slice tSg kSg) (fun xs => (∀ x ∈ xs, Sok x) ∧ xs.length * 16 ≤ 140737488351232) (fun xs => 1) :=
  opens_mono (fun _ h => ⟨h.1, h.2.2⟩) (fun xs => by omega) (opens_slice Try.underlying46 (by kernel_rfl) (by kernel_rfl) oSg)
theorem oHd : Opens Try.prog tHeld kHd (fun x => Sok x.f0) (fun _ => 1) :=
  opens_mono (fun _ h => h.1) (fun x => by omega)
    (opens_iso (b := fun x => ⟨x.1, x.2⟩) (fun _ => rfl) (opens_struct Try.underlying66 (by kernel_rfl)
      (opensF_cons rfl (by kernel_rfl) rfl oSg (opensF_last rfl (by kernel_rfl) oVers))))
theorem oHds : Opens Try.prog 47 (Kd.slice tHeld kHd) (fun xs => (∀ x ∈ xs, Sok x.f0) ∧ xs.length * 40 ≤ 140737488351232) (fun xs => 1) :=
  opens_mono (fun _ h => ⟨h.1, h.2.2⟩) (fun xs => by omega) (opens_slice Try.underlying47 (by kernel_rfl) (by kernel_rfl) oHd)
end Go.Proofs.Ytfepfpcilmaojaa.QV
