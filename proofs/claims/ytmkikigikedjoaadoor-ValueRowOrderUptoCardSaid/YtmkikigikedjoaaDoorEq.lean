/- '==' between values, and between terms, as one Bool. -/
import Derived.Test.YtmkikigikedjoaaDoorProg
import Derived.Test.YtmkikigikedjoaaDoorKinds
import Derived.Test.YtmkikigikedjoaaDoorWEqStruct
namespace Go.Proofs.YtmkikigikedjoaaDoor.Op
open Go.RowKit Go.Proofs.YtmkikigikedjoaaDoorW.PrintWords
set_option linter.unusedVariables false
theorem eqV (d : Nat) (w : World) (x0 y0 : Int) (x1 y1 : Bool) (x2 y2 : Int) (x3 y3 : ByteArray) :
    (Op.equalIn (d + 2) 23 (.agg #[.int .i64 x0, .bool x1, .int .i64 x2, .string x3]) (.agg #[.int .i64 y0, .bool y1, .int .i64 y2, .string y3])).run Tryd.prog w = .ok (x0 == y0 && (x1 == y1 && (x2 == y2 && (x3.toList == y3.toList)))) w := by
  refine eqA_of Tryd.underlying23 (by kernel_rfl) ?_
  refine eqf_cons (by rfl) (by go_simp; rfl) (by go_simp; rfl) (by go_simp) ?_
  refine eqf_cons (by rfl) (by go_simp; rfl) (by go_simp; rfl) (by go_simp) ?_
  refine eqf_cons (by rfl) (by go_simp; rfl) (by go_simp; rfl) (by go_simp) ?_
  exact eqf_last (by rfl) (by go_simp; rfl) (by go_simp; rfl) (by go_simp)
end Go.Proofs.YtmkikigikedjoaaDoor.Op
