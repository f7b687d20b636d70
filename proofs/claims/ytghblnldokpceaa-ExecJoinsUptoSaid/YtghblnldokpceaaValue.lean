/- What the functions of package value, and the reference's, tell of values and rows. -/
import Derived.Test.YtghblnldokpceaaProg
import Derived.Test.YtghblnldokpceaaOrder
import Derived.Test.YtghblnldokpceaaShelf
import Derived.WalkKit
import Derived.WalkSpells
import Derived.Lib.Hide
namespace Go.Proofs.Ytghblnldokpceaa.Op
open Go.RowKit Go.Proofs.YtghblnldokpceaaW.PrintWords
set_option linter.unusedVariables false

theorem isNaNInt (a : Int) (w : World) : Calls Try.prog 75 #[.int .i64 a] w fun e w' => e = .returned (.bool false) ∧ w = w' := by
  go_enter Try.func75, Try.ntmps75
  go_wp2
  go_ret
  exact ⟨by simp, rfl⟩
theorem isNaNInt64 (a : Int) (w : World) : Calls Try.prog 76 #[.int .i64 a] w fun e w' => e = .returned (.bool false) ∧ w = w' := by
  go_enter Try.func76, Try.ntmps76
  go_wp2
  go_ret
  exact ⟨by simp, rfl⟩
theorem cmpInt (a b : Int) (w : World) : Calls Try.prog 61 #[.int .i64 a, .int .i64 b] w fun e w' => e = .returned (.int .i64 (cmpI a b)) ∧ w = w' := by
  go_enter Try.func61, Try.ntmps61
  go_wp2_with (go_at_call 75; refine (isNaNInt _ _).mono ?_; rintro e w' ⟨rfl, rfl⟩)
  all_goals go_ret
  all_goals refine ⟨ret_int ?_, rfl⟩
  all_goals (unfold cmpI; (repeat split) <;> omega)
theorem cmpInt64 (a b : Int) (w : World) : Calls Try.prog 62 #[.int .i64 a, .int .i64 b] w fun e w' => e = .returned (.int .i64 (cmpI a b)) ∧ w = w' := by
  go_enter Try.func62, Try.ntmps62
  go_wp2_with (go_at_call 76; refine (isNaNInt64 _ _).mono ?_; rintro e w' ⟨rfl, rfl⟩)
  all_goals go_ret
  all_goals refine ⟨ret_int ?_, rfl⟩
  all_goals (unfold cmpI; (repeat split) <;> omega)

set_option maxHeartbeats 1000000 in
theorem compareV (x y : V) (w : World) : Calls Try.prog 34 #[x.val, y.val] w fun e w' => e = .returned (.int .i64 (cmpV x y)) ∧ Below w.heap.size w w' := by
  obtain ⟨k, b, i, s⟩ := x
  obtain ⟨k', b', i', s'⟩ := y
  unfold V.val
  go_enter Try.func34, Try.ntmps34
  go_wp2_with (first | (go_at_call 61; refine (cmpInt _ _ _).mono ?_; rintro e w' ⟨rfl, rfl⟩) | (go_at_call 62; refine (cmpInt64 _ _ _).mono ?_; rintro e w' ⟨rfl, rfl⟩) | (go_at_call 63; refine (Try.strings_Compare _ _ _).mono ?_; rintro e w' ⟨rfl, rfl⟩))
  all_goals go_ret
  all_goals refine ⟨ret_int ?_, ((Below.refl _ _).alloc (Nat.le_refl _) _).alloc (by simp) _⟩
  all_goals unfold cmpV
  all_goals simp_all

/-! ### the reference's order -/
set_option maxHeartbeats 1000000 in
theorem ref_less (x y : V) (w : World) : Calls Try.prog 49 #[x.val, y.val] w fun e w' => e = .returned (.bool (lessV x y)) ∧ Below w.heap.size w w' := by
  obtain ⟨k, b, i, s⟩ := x
  obtain ⟨k', b', i', s'⟩ := y
  unfold V.val
  go_enter Try.func49, Try.ntmps49
  go_wp2
  all_goals go_ret
  all_goals refine ⟨ret_bool ?_, ((Below.refl _ _).alloc (Nat.le_refl _) _).alloc (by simp) _⟩
  all_goals unfold lessV
  all_goals simp_all
set_option maxHeartbeats 1000000 in
theorem ref_compareV (x y : V) (w : World) : Calls Try.prog 20 #[x.val, y.val] w fun e w' => e = .returned (.int .i64 (cmpV x y)) ∧ Below w.heap.size w w' := by
  have hxy := Lib.hid (lessV_cmp x y)
  have hyx := Lib.hid (lessV_cmp y x)
  have hs := Lib.hid (cmpV_swap x y)
  have hr := Lib.hid (cmpV_range x y)
  generalize hn : cmpV x y = n at *
  have HN := Lib.hid hn
  clear hn
  cases hb1 : lessV x y
  all_goals cases hb2 : lessV y x
  all_goals
    have H1 := Lib.hid hb1
    have H2 := Lib.hid hb2
    clear hb1 hb2
    obtain ⟨k, b, i, s⟩ := x
    obtain ⟨k', b', i', s'⟩ := y
    unfold V.val
    go_enter Try.func20, Try.ntmps20
    go_wp2_with fail
    refine (ref_less ⟨k, b, i, s⟩ ⟨k', b', i', s'⟩ _).mono ?_
    rintro e w1 ⟨rfl, hb1⟩
    obtain ⟨hbc, hbf⟩ := bcell hb1
    have hz : w.heap.size + 1 < w1.heap.size := by have := hb1.size; simp at this; omega
    rw [H1.out]
    go_wp2_with fail
    refine (ref_less ⟨k', b', i', s'⟩ ⟨k, b, i, s⟩ _).mono ?_
    rintro e w2 ⟨rfl, hb2⟩
    rw [H2.out]
    go_wp2
    go_ret
    refine ⟨ret_int ?_, (((Below.refl _ _).alloc (Nat.le_refl _) _).alloc (by simp) _ |>.trans (hb1.mono (by simp; omega))).trans (hb2.mono (by have := hb1.size; simp at this; omega))⟩
    have := hxy.out
    have h2 := hyx.out
    have h3 := hs.out
    have h4 := hr.out
    rw [H1.out] at this
    rw [H2.out, h3] at h2
    simp at this h2
    omega
end Go.Proofs.Ytghblnldokpceaa.Op
