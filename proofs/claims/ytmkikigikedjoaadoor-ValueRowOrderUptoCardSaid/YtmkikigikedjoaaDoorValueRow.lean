/- What the rows of layer 2's laws share: the table of tens out of the list of what is laid; a world for the witness; how values are opened. -/
import Derived.Test.YtmkikigikedjoaaDoorOpen
import Derived.Test.YtmkikigikedjoaaDoorAlive2
import Derived.Test.YtmkikigikedjoaaDoorRows
import Derived.Deep.DeepHandedRow
namespace Go.Proofs.YtmkikigikedjoaaDoor.Op
open Go.RowKit Go.Proofs.YtmkikigikedjoaaDoorW.PrintWords
set_option linter.unusedVariables false

theorem tb_met {W : World} (h : laidMetH Tryd.prog [("math/bits.deBruijn32tab", Rows.laid_math_bits_deBruijn32tab), ("math/bits.deBruijn64tab", Rows.laid_math_bits_deBruijn64tab), ("internal/strconv.uint64pow10", Rows.laid_internal_strconv_uint64pow10)] W) : Tb W := by
  obtain ⟨ps, ⟨_, _, _, _, _, _, _, _, _, _, ⟨_, _, _, _, _, _, _, _, _, _, ⟨g', t', cs, fuel, p, q, hg', ht', hvar, hd, _, _⟩, _⟩, _⟩, _⟩ := (show laidMet Tryd.prog [("math/bits.deBruijn32tab", Rows.laid_math_bits_deBruijn32tab), ("math/bits.deBruijn64tab", Rows.laid_math_bits_deBruijn64tab), ("internal/strconv.uint64pow10", Rows.laid_internal_strconv_uint64pow10)] W from h)
  have hg : Tryd.prog.globalNamed "internal/strconv.uint64pow10" = some 3 := by kernel_rfl
  have hty : (Tryd.prog.globals[3]?).map (·.type) = some 98 := by kernel_rfl
  obtain rfl := Option.some.inj (hg.symm.trans hg')
  obtain rfl := Option.some.inj (hty.symm.trans ht')
  unfold Tb Lib.TabIs
  rw [hvar]
  have hd' := Lib.cells_of_tab (k := .u64) (zs := Lib.pow10Tab) Tryd.underlying98 Tryd.underlying80 (by kernel_rfl) (by kernel_rfl) hd
  rw [← hd']

def litCells : DataW Unit → Array Value
  | .agg l => (l.map fun
      | .lit (.int k n) => Value.int k n
      | _ => undef).toArray
  | _ => #[]
/-- A WORLD FOR THE WITNESS: the settled one, the tables holding what their initialisers lay. -/
def putCells (d : DataW Unit) : Obj → Obj
  | .cells _ t frozen => .cells (litCells d) t frozen
  | o => o
noncomputable def laidWorld (os : Os) : World :=
  { World.holding Tryd.prog os ⟨#[], #[], []⟩ with heap := (((World.holding Tryd.prog os ⟨#[], #[], []⟩).heap.modify 4 (putCells Rows.laid_math_bits_deBruijn32tab)).modify 5 (putCells Rows.laid_math_bits_deBruijn64tab)).modify 3 (putCells Rows.laid_internal_strconv_uint64pow10) }

/-! how arguments are opened -/
def gV (x : V) : Prop := (Lit.int .i64 x.k).wf = true ∧ (Lit.int .i64 x.i).wf = true ∧ x.s.size ≤ 140737488351232
def mV (x : V) : Nat := x.s.size + 4
theorem oV : Opens Tryd.prog 23 kV gV mV :=
  opens_mono (fun x h => ⟨h.1, h.2.2.1, h.2.2.2⟩) (fun x => by simp only [mV]; omega)
    (opens_iso (b := fun x => ⟨x.1, x.2.1, x.2.2.1, x.2.2.2⟩) (fun _ => rfl) (opens_struct Tryd.underlying23 (by kernel_rfl)
      (opensF_cons rfl (by kernel_rfl) rfl (opens_int Tryd.underlying3) (opensF_cons rfl (by kernel_rfl) rfl (opens_bool Tryd.underlying4) (opensF_cons rfl (by kernel_rfl) rfl (opens_int Tryd.underlying2) (opensF_last rfl (by kernel_rfl) (opens_string Tryd.underlying9)))))))
theorem oVs : Opens Tryd.prog 35 (Kd.slice 23 kV) (fun xs => (∀ x ∈ xs, gV x) ∧ xs.length ≤ 9223372036854775807 ∧ xs.length * 40 ≤ 140737488351232) (fun xs => (xs.map mV).sum + 1) :=
  opens_slice Tryd.underlying35 (by kernel_rfl) (by kernel_rfl) oV
end Go.Proofs.YtmkikigikedjoaaDoor.Op
