/- ValueRows: the walk. -/
import Derived.Test.YtmkikigikedjoaaDoorAlive2
import Derived.Test.YtmkikigikedjoaaDoorRowsV
namespace Go.Proofs.YtmkikigikedjoaaDoor.Op
open Go.RowKit Go.Proofs.YtmkikigikedjoaaDoorW.PrintWords
set_option linter.unusedVariables false

theorem keep_b {w W w1 : World} (hb : Below W.heap.size W w1) (q : Below w.heap.size w W) : Below w.heap.size w w1 := q.trans (hb.mono q.size)

set_option maxHeartbeats 1000000 in
theorem walkRowsV (A : Option Addr) (a : List V) (ca : Nat) (B : Option Addr) (b : List V) (cb : Nat) (w : World) (ha : kV.C w A a.length a) (hca : a.length ≤ ca) (hb : kV.C w B b.length b) (hcb : b.length ≤ cb) (hT : Tb w) :
    Calls Tryd.prog 5 #[.slice A a.length ca, .slice B b.length cb] w fun e w' => e = .returned (.bool true) ∧ Below w.heap.size w w' := by
  go_enter Tryd.func5, Tryd.ntmps5
  go_wp2_with fail
  refine (alive2_any _ hT).mono ?_
  rintro e w1 ⟨rfl, hw⟩
  go_wp2_with fail
  refine (rows_any A a ca B b cb _ (Kd.C_below ha hw) hca (Kd.C_below hb hw) hcb).mono ?_
  rintro e w2 ⟨rfl, hb1⟩
  replace hw := hw.trans (hb1.mono hw.size)
  go_wp2_with fail
  refine (ref_rows A a ca B b cb _ (Kd.C_below ha hw) hca (Kd.C_below hb hw) hcb).mono ?_
  rintro e w3 ⟨rfl, hb2⟩
  go_wp2
  go_ret
  exact ⟨ret_bool (by simp), hw.trans (hb2.mono hw.size)⟩
end Go.Proofs.YtmkikigikedjoaaDoor.Op
