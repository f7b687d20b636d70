/- How arguments are opened into the print's kinds (layer 2). -/
import Derived.Test.YtmkikigikedjoaaDoorQVx0
import Derived.Test.YtmkikigikedjoaaDoorValueRow
namespace Go.Proofs.YtmkikigikedjoaaDoor.QV
open Go.RowKit Go.Proofs.YtmkikigikedjoaaDoorW.PrintWords Go.Proofs.YtmkikigikedjoaaDoor.Op
set_option linter.unusedVariables false
theorem oS : Opens Tryd.prog 23 k23 (fun _ => True) (fun x => x.f3.size + 4) :=
  opens_mono (fun _ _ => trivial) (fun x => by simp only; omega)
    (opens_iso (b := fun x => ⟨x.1, x.2.1, x.2.2.1, x.2.2.2⟩) (fun _ => rfl) (opens_struct Tryd.underlying23 (by kernel_rfl)
      (opensF_cons rfl (by kernel_rfl) rfl (opens_int Tryd.underlying3) (opensF_cons rfl (by kernel_rfl) rfl (opens_bool Tryd.underlying4) (opensF_cons rfl (by kernel_rfl) rfl (opens_int Tryd.underlying2) (opensF_last rfl (by kernel_rfl) (opens_string Tryd.underlying9)))))))
theorem oSs : Opens Tryd.prog 35 (Kd.slice 23 k23) (fun xs => xs.length ≤ 9223372036854775807 ∧ xs.length * 40 ≤ 140737488351232) (fun xs => xs.length + 1) :=
  opens_mono (fun _ h => h.2) (fun xs => by have := len_le_sum (m := fun x : S23 => x.f3.size + 4) (fun _ => by omega) xs; omega) (opens_slice Tryd.underlying35 (by kernel_rfl) (by kernel_rfl) oS)
theorem oC : Opens Tryd.prog 28 k28 (fun _ => True) (fun x => x.f0.size + 3) :=
  opens_mono (fun _ _ => trivial) (fun x => by simp only; omega)
    (opens_iso (b := fun x => ⟨x.1, x.2.1, x.2.2⟩) (fun _ => rfl) (opens_struct Tryd.underlying28 (by kernel_rfl)
      (opensF_cons rfl (by kernel_rfl) rfl (opens_string Tryd.underlying9) (opensF_cons rfl (by kernel_rfl) rfl (opens_int Tryd.underlying3) (opensF_last rfl (by kernel_rfl) (opens_bool Tryd.underlying4))))))
/-- A table: its name, its columns. -/
def kTab : Kd (ByteArray × List S28) := Kd.pair Kd.string (Kd.slice 28 k28)
theorem oTab : Opens Tryd.prog 42 kTab (fun x => x.2.length ≤ 9223372036854775807 ∧ x.2.length * 32 ≤ 140737488351232) (fun x => x.2.length + 1) :=
  opens_mono (fun _ h => h.2.2) (fun x => by have := len_le_sum (m := fun x : S28 => x.f0.size + 3) (fun _ => by omega) x.2; omega)
    (opens_struct Tryd.underlying42 (by kernel_rfl)
      (opensF_cons rfl (by kernel_rfl) rfl (opens_string Tryd.underlying9) (opensF_last rfl (by kernel_rfl) (opens_slice Tryd.underlying40 (by kernel_rfl) (by kernel_rfl) oC))))
theorem kTab_open {w : World} {x : ByteArray × List S28} {cs : List Value} (h : kTab.K w x cs) : ∃ A c, cs = [.string x.1, .slice A x.2.length c] ∧ x.2.length ≤ c ∧ Kd.C k28 w A x.2.length x.2 := by
  obtain ⟨c1, c2, rfl, rfl, A, c, rfl, hl, hC⟩ := h
  exact ⟨A, c, rfl, hl, hC⟩
end Go.Proofs.YtmkikigikedjoaaDoor.QV
