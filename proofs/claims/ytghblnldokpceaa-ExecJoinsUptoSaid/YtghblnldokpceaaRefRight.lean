/- Which values are right: the reference's Right. -/
import Derived.Test.YtghblnldokpceaaEq
import Derived.Test.YtghblnldokpceaaValue
import Derived.Handy
namespace Go.Proofs.Ytghblnldokpceaa.Op
open Go.RowKit Go.Proofs.YtghblnldokpceaaW.PrintWords
set_option linter.unusedVariables false
set_option linter.unusedSimpArgs false

def eqVB (x y : V) : Bool := x.k == y.k && (x.b == y.b && (x.i == y.i && (x.s.toList == y.s.toList)))
def rightV (x : V) : Bool :=
  if x.k = 0 then eqVB x ⟨0, false, 0, ⟨#[]⟩⟩ else if x.k = 1 then eqVB x ⟨1, x.b, 0, ⟨#[]⟩⟩ else if x.k = 2 then eqVB x ⟨2, false, x.i, ⟨#[]⟩⟩
  else if x.k = 3 then eqVB x ⟨3, false, 0, x.s⟩ && decide ((x.s.size : Int) ≤ 64) else false

theorem toList_nil {s : ByteArray} (h : s.toList = []) : (s.size : Int) ≤ 64 := by
  rw [Lib.toList_data] at h
  have z1 := congrArg List.length h
  simp at z1
  rw [show s.size = 0 from by simpa using z1]; decide
theorem nil_toList : (⟨#[]⟩ : ByteArray).toList = [] := by rw [Lib.toList_data]

attribute [local go_sem high] eqV
set_option maxHeartbeats 1000000 in
theorem ref_right (x : V) (w : World) : Calls Try.prog 26 #[x.val] w fun e w' => e = .returned (.bool (rightV x)) ∧ Below w.heap.size w w' := by
  obtain ⟨k, b, i, s⟩ := x
  unfold V.val
  by_cases h0 : k = 0
  case' pos => subst h0
  case' neg =>
    by_cases h1 : k = 1
    case' pos => subst h1
    case' neg =>
      by_cases h2 : k = 2
      case' pos => subst h2
      case' neg =>
        by_cases h3 : k = 3
        case' pos => subst h3
        case' neg =>
          have e1 : (k == 1) = false := beq_eq_false_iff_ne.2 h1
          have e2 : (k == 2) = false := beq_eq_false_iff_ne.2 h2
          have e3 : (k == 3) = false := beq_eq_false_iff_ne.2 h3
          have hneg : ¬ (0 ≤ k ∧ k ≤ 3) := by omega
          by_cases hlt : k < 0
  all_goals
    go_enter Try.func26, Try.ntmps26
    go_wp2
  all_goals go_ret
  all_goals refine ⟨ret_bool ?_, below_alloc (below_alloc (Below.refl w.heap.size w) _) _⟩
  all_goals try (simp [rightV, *]; done)
  all_goals (have := @toList_nil s; simp_all [rightV, eqVB, nil_toList])
end Go.Proofs.Ytghblnldokpceaa.Op
