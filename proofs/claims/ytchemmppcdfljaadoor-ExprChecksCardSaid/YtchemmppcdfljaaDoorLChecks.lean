/- ExprChecks: the walk. -/
import Derived.Test.YtchemmppcdfljaaDoorCheck
namespace Go.Proofs.YtchemmppcdfljaaDoor.Op
open Go.RowKit Go.Proofs.YtchemmppcdfljaaDoorW.PrintWords
set_option linter.unusedVariables false
set_option linter.unusedSimpArgs false

set_option maxHeartbeats 1000000 in
theorem walkChecks (Ac : Option Addr) (cs : List Cn) (cc : Nat) (Al : Option Addr) (l : List T) (cl : Nat) (w : World) (hcs : kCn.C w Ac cs.length cs) (hcc : cs.length ≤ cc) (hl : kT.C w Al l.length l) (hcl : l.length ≤ cl) (hT : Tab w) :
    Calls Tryd.prog 8 #[.slice Ac cs.length cc, .slice Al l.length cl] w fun e w' => e = .returned (.bool true) ∧ Below w.heap.size w w' := by
  have hm := hl.2.1
  go_enter Tryd.func8, Tryd.ntmps8
  go_wp2_with fail
  refine (alive_any _ hT).mono ?_
  rintro e w1 ⟨rfl, hb⟩
  have hw := hb
  go_wp2_with fail
  refine (check_any Ac cs cc Al l cl _ (Kd.C_below hcs hw) hcc (Kd.C_below hl hw) hcl).mono ?_
  rintro e w2 ⟨rfl, hb2⟩
  have hw2 := hw.trans (hb2.mono hw.size)
  go_wp2_with fail
  refine (ref_check Ac cs cc Al l cl _ (Kd.C_below hcs hw2) hcc (Kd.C_below hl hw2) hcl).mono ?_
  rintro e w3 ⟨rfl, hb3⟩
  go_wp2
  go_ret
  exact ⟨ret_bool (by simp), hw2.trans (hb3.mono hw2.size)⟩
end Go.Proofs.YtchemmppcdfljaaDoor.Op
