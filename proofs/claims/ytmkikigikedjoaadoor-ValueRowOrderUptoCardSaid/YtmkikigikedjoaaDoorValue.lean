/- What the functions of package value, and the reference's, tell of values and rows. -/
import Derived.Test.YtmkikigikedjoaaDoorProg
import Derived.Test.YtmkikigikedjoaaDoorOrder
import Derived.Test.YtmkikigikedjoaaDoorShelf
import Derived.WalkKit
import Derived.WalkSpells
import Derived.Lib.Hide
namespace Go.Proofs.YtmkikigikedjoaaDoor.Op
open Go.RowKit Go.Proofs.YtmkikigikedjoaaDoorW.PrintWords
set_option linter.unusedVariables false

theorem isNaNInt (a : Int) (w : World) : Calls Tryd.prog 49 #[.int .i64 a] w fun e w' => e = .returned (.bool false) ∧ w = w' := by
  go_enter Tryd.func49, Tryd.ntmps49
  go_wp2
  go_ret
  exact ⟨by simp, rfl⟩
theorem isNaNInt64 (a : Int) (w : World) : Calls Tryd.prog 50 #[.int .i64 a] w fun e w' => e = .returned (.bool false) ∧ w = w' := by
  go_enter Tryd.func50, Tryd.ntmps50
  go_wp2
  go_ret
  exact ⟨by simp, rfl⟩
theorem cmpInt (a b : Int) (w : World) : Calls Tryd.prog 34 #[.int .i64 a, .int .i64 b] w fun e w' => e = .returned (.int .i64 (cmpI a b)) ∧ w = w' := by
  go_enter Tryd.func34, Tryd.ntmps34
  go_wp2_with (go_at_call 49; refine (isNaNInt _ _).mono ?_; rintro e w' ⟨rfl, rfl⟩)
  all_goals go_ret
  all_goals refine ⟨ret_int ?_, rfl⟩
  all_goals (unfold cmpI; (repeat split) <;> omega)
theorem cmpInt64 (a b : Int) (w : World) : Calls Tryd.prog 35 #[.int .i64 a, .int .i64 b] w fun e w' => e = .returned (.int .i64 (cmpI a b)) ∧ w = w' := by
  go_enter Tryd.func35, Tryd.ntmps35
  go_wp2_with (go_at_call 50; refine (isNaNInt64 _ _).mono ?_; rintro e w' ⟨rfl, rfl⟩)
  all_goals go_ret
  all_goals refine ⟨ret_int ?_, rfl⟩
  all_goals (unfold cmpI; (repeat split) <;> omega)

set_option maxHeartbeats 1000000 in
theorem compareV (x y : V) (w : World) : Calls Tryd.prog 13 #[x.val, y.val] w fun e w' => e = .returned (.int .i64 (cmpV x y)) ∧ Below w.heap.size w w' := by
  obtain ⟨k, b, i, s⟩ := x
  obtain ⟨k', b', i', s'⟩ := y
  unfold V.val
  go_enter Tryd.func13, Tryd.ntmps13
  go_wp2_with (first | (go_at_call 34; refine (cmpInt _ _ _).mono ?_; rintro e w' ⟨rfl, rfl⟩) | (go_at_call 35; refine (cmpInt64 _ _ _).mono ?_; rintro e w' ⟨rfl, rfl⟩) | (go_at_call 36; refine (Tryd.strings_Compare _ _ _).mono ?_; rintro e w' ⟨rfl, rfl⟩))
  all_goals go_ret
  all_goals refine ⟨ret_int ?_, ((Below.refl _ _).alloc (Nat.le_refl _) _).alloc (by simp) _⟩
  all_goals unfold cmpV
  all_goals simp_all

/-! ### the reference's order -/
set_option maxHeartbeats 1000000 in
theorem ref_less (x y : V) (w : World) : Calls Tryd.prog 37 #[x.val, y.val] w fun e w' => e = .returned (.bool (lessV x y)) ∧ Below w.heap.size w w' := by
  obtain ⟨k, b, i, s⟩ := x
  obtain ⟨k', b', i', s'⟩ := y
  unfold V.val
  go_enter Tryd.func37, Tryd.ntmps37
  go_wp2
  all_goals go_ret
  all_goals refine ⟨ret_bool ?_, ((Below.refl _ _).alloc (Nat.le_refl _) _).alloc (by simp) _⟩
  all_goals unfold lessV
  all_goals simp_all
set_option maxHeartbeats 1000000 in
theorem ref_compareV (x y : V) (w : World) : Calls Tryd.prog 14 #[x.val, y.val] w fun e w' => e = .returned (.int .i64 (cmpV x y)) ∧ Below w.heap.size w w' := by
  have hxy := Lib.hid (lessV_cmp x y)
  have hyx := Lib.hid (lessV_cmp y x)
  have hs := Lib.hid (cmpV_swap x y)
  have hr := Lib.hid (cmpV_range x y)
  generalize hn : cmpV x y = n at *
  have HN := Lib.hid hn
  clear hn
  cases hb1 : lessV x y
  all_goals cases hb2 : lessV y x
  all_goals
    have H1 := Lib.hid hb1
    have H2 := Lib.hid hb2
    clear hb1 hb2
    obtain ⟨k, b, i, s⟩ := x
    obtain ⟨k', b', i', s'⟩ := y
    unfold V.val
    go_enter Tryd.func14, Tryd.ntmps14
    go_wp2_with fail
    refine (ref_less ⟨k, b, i, s⟩ ⟨k', b', i', s'⟩ _).mono ?_
    rintro e w1 ⟨rfl, hb1⟩
    obtain ⟨hbc, hbf⟩ := bcell hb1
    have hz : w.heap.size + 1 < w1.heap.size := by have := hb1.size; simp at this; omega
    rw [H1.out]
    go_wp2_with fail
    refine (ref_less ⟨k', b', i', s'⟩ ⟨k, b, i, s⟩ _).mono ?_
    rintro e w2 ⟨rfl, hb2⟩
    rw [H2.out]
    go_wp2
    go_ret
    refine ⟨ret_int ?_, (((Below.refl _ _).alloc (Nat.le_refl _) _).alloc (by simp) _ |>.trans (hb1.mono (by simp; omega))).trans (hb2.mono (by have := hb1.size; simp at this; omega))⟩
    have := hxy.out
    have h2 := hyx.out
    have h3 := hs.out
    have h4 := hr.out
    rw [H1.out] at this
    rw [H2.out, h3] at h2
    simp at this h2
    omega
end Go.Proofs.YtmkikigikedjoaaDoor.Op
