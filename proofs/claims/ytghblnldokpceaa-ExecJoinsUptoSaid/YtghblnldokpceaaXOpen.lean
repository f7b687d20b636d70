/- How the arguments of layer 15 are opened into the print's kinds. -/
import Derived.Test.YtghblnldokpceaaQVx0
import Derived.Test.YtghblnldokpceaaOpen
namespace Go.Proofs.Ytghblnldokpceaa.QV
open Go.RowKit Go.Proofs.YtghblnldokpceaaW.PrintWords Go.Proofs.Ytghblnldokpceaa.Op
set_option linter.unusedVariables false
theorem oS : Opens Try.prog 42 k42 (fun _ => True) (fun x => x.f3.size + 4) :=
  opens_mono (fun _ _ => trivial) (fun x => by simp only; omega)
    (opens_iso (b := fun x => ⟨x.1, x.2.1, x.2.2.1, x.2.2.2⟩) (fun _ => rfl) (opens_struct Try.underlying42 (by kernel_rfl)
      (opensF_cons rfl (by kernel_rfl) rfl (opens_int Try.underlying3) (opensF_cons rfl (by kernel_rfl) rfl (opens_bool Try.underlying4) (opensF_cons rfl (by kernel_rfl) rfl (opens_int Try.underlying2) (opensF_last rfl (by kernel_rfl) (opens_string Try.underlying9)))))))
theorem oSs : Opens Try.prog 31 (Kd.slice 42 k42) (fun xs => xs.length ≤ 9223372036854775807 ∧ xs.length * 40 ≤ 140737488351232) (fun xs => xs.length + 1) :=
  opens_mono (fun _ h => h.2) (fun xs => by have := len_le_sum (m := fun x : S42 => x.f3.size + 4) (fun _ => by omega) xs; omega) (opens_slice Try.underlying31 (by kernel_rfl) (by kernel_rfl) oS)
/-- Rows of values: how many, how long. -/
theorem oRows : Opens Try.prog 22 (Kd.slice 31 (Kd.slice 42 k42)) (fun xs => (∀ x ∈ xs, x.length * 40 ≤ 140737488351232) ∧ xs.length * 24 ≤ 140737488351232) (fun xs => (xs.map fun x => x.length + 1).sum + 1) :=
  opens_mono (fun _ h => ⟨fun x hx => (h.1 x hx).2, h.2.2⟩) (fun _ => Nat.le_refl _) (opens_slice Try.underlying22 (by kernel_rfl) (by kernel_rfl) oSs)
theorem rows_small {xs : List (List S42)} {n : Nat} (h : (xs.map fun x => x.length + 1).sum + 1 ≤ n) : (∀ x ∈ xs, x.length ≤ n) ∧ xs.length ≤ n := by
  refine ⟨fun x hx => ?_, ?_⟩
  · have := mem_le_sum (m := fun x : List S42 => x.length + 1) hx
    have this : x.length + 1 ≤ (xs.map fun x => x.length + 1).sum := this
    omega
  · have := len_le_sum (m := fun x : List S42 => x.length + 1) (fun _ => by omega) xs
    omega
/-- Two whole numbers. -/
theorem oTwo : Opens Try.prog 23 (Kd.pair (Kd.int .i64) (Kd.int .i64)) (fun _ => True) (fun _ => 1) :=
  opens_mono (fun _ _ => trivial) (fun _ => by simp) (opens_array2 Try.underlying23 (by kernel_rfl) (by kernel_rfl) (opens_int Try.underlying3))
theorem two_open {w : World} {x : Int × Int} {cs : List Value} (h : (Kd.pair (Kd.int .i64) (Kd.int .i64)).K w x cs) : cs = [.int .i64 x.1, .int .i64 x.2] := by
  obtain ⟨_, _, rfl, rfl, rfl⟩ := h
  rfl
end Go.Proofs.Ytghblnldokpceaa.QV
