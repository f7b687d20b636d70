/- value.Right, and the reference's: which values are right. -/
import Derived.Test.YtmkikigikedjoaaDoorEq
import Derived.Test.YtmkikigikedjoaaDoorValue
import Derived.Handy
namespace Go.Proofs.YtmkikigikedjoaaDoor.Op
open Go.RowKit Go.Proofs.YtmkikigikedjoaaDoorW.PrintWords
set_option linter.unusedVariables false
set_option linter.unusedSimpArgs false

def eqVB (x y : V) : Bool := x.k == y.k && (x.b == y.b && (x.i == y.i && (x.s.toList == y.s.toList)))
def rightV (x : V) : Bool :=
  if x.k = 0 then eqVB x ⟨0, false, 0, ⟨#[]⟩⟩ else if x.k = 1 then eqVB x ⟨1, x.b, 0, ⟨#[]⟩⟩ else if x.k = 2 then eqVB x ⟨2, false, x.i, ⟨#[]⟩⟩
  else if x.k = 3 then eqVB x ⟨3, false, 0, x.s⟩ && decide ((x.s.size : Int) ≤ 64) else false

theorem null_any (w : World) : Calls Tryd.prog 15 #[] w fun e w' => e = .returned (V.val ⟨0, false, 0, ⟨#[]⟩⟩) ∧ Below w.heap.size w w' := by
  go_enter Tryd.func15, Tryd.ntmps15
  go_wp2
  go_returns
  exact ⟨rfl, below_alloc (Below.refl _ _) _⟩
theorem mkBool_any (b : Bool) (w : World) : Calls Tryd.prog 16 #[.bool b] w fun e w' => e = .returned (V.val ⟨1, b, 0, ⟨#[]⟩⟩) ∧ Below w.heap.size w w' := by
  go_enter Tryd.func16, Tryd.ntmps16
  go_wp2
  go_returns
  exact ⟨rfl, below_alloc (Below.refl _ _) _⟩
theorem mkInt_any (i : Int) (w : World) : Calls Tryd.prog 17 #[.int .i64 i] w fun e w' => e = .returned (V.val ⟨2, false, i, ⟨#[]⟩⟩) ∧ Below w.heap.size w w' := by
  go_enter Tryd.func17, Tryd.ntmps17
  go_wp2
  go_returns
  exact ⟨rfl, below_alloc (Below.refl _ _) _⟩
theorem mkText_any (s : ByteArray) (w : World) : Calls Tryd.prog 18 #[.string s] w fun e w' => e = .returned (V.val ⟨3, false, 0, s⟩) ∧ Below w.heap.size w w' := by
  go_enter Tryd.func18, Tryd.ntmps18
  go_wp2
  go_returns
  exact ⟨rfl, below_alloc (Below.refl _ _) _⟩

theorem toList_nil {s : ByteArray} (h : s.toList = []) : (s.size : Int) ≤ 64 := by
  rw [Lib.toList_data] at h
  have z1 := congrArg List.length h
  simp at z1
  rw [show s.size = 0 from by simpa using z1]; decide
theorem nil_toList : (⟨#[]⟩ : ByteArray).toList = [] := by rw [Lib.toList_data]

set_option maxHeartbeats 1000000 in
theorem right_text (b : Bool) (i : Int) (s : ByteArray) (w : World) : Calls Tryd.prog 19 #[V.val ⟨3, b, i, s⟩] w fun e w' => e = .returned (.bool (rightV ⟨3, b, i, s⟩)) ∧ Below w.heap.size w w' := by
  have eqX : ∀ d w, (Op.equalIn (d + 2) 23 (.agg #[.int .i64 3, .bool b, .int .i64 i, .string s]) (.agg #[.int .i64 3, .bool false, .int .i64 0, .string s])).run Tryd.prog w = .ok (!b && i == 0) w := by
    intro d w
    rw [eqV]
    simp
  have hq : rightV ⟨3, b, i, s⟩ = ((!b && i == 0) && decide ((s.size : Int) ≤ 64)) := by simp [rightV, eqVB]
  rw [hq]
  generalize (!b && i == 0) = r at eqX ⊢
  have hB := below_alloc (Below.refl w.heap.size w) (.cells #[.int .i64 3, .bool b, .int .i64 i, .string s] 23)
  have hN := blk_new w (.cells #[.int .i64 3, .bool b, .int .i64 i, .string s] 23)
  clear hq
  unfold V.val
  cases r
  · go_enter Tryd.func19, Tryd.ntmps19
    go_wp2_with fail
    generalize w.alloc (.cells #[.int .i64 3, .bool b, .int .i64 i, .string s] 23) = W at hB hN ⊢
    have g0 : W.cell? ⟨w.heap.size, 0, none⟩ = some (.int .i64 3) := (blk_cell hN 0).trans rfl
    have g1 : W.cell? ⟨w.heap.size, 1, none⟩ = some (.bool b) := (blk_cell hN 1).trans rfl
    have g2 : W.cell? ⟨w.heap.size, 2, none⟩ = some (.int .i64 i) := (blk_cell hN 2).trans rfl
    have g3 : W.cell? ⟨w.heap.size, 3, none⟩ = some (.string s) := (blk_cell hN 3).trans rfl
    first | go_region_with (first | (go_at_call 18; refine (mkText_any _ _).mono ?_; rintro e w1 ⟨rfl, hb⟩; unfold V.val; have q0 := pw_cell_below hb g0; have q1 := pw_cell_below hb g1; have q2 := pw_cell_below hb g2; have q3 := pw_cell_below hb g3; have hz := (below_drew hB).trans (hb.mono (below_drew hB).size))) | fail
    all_goals
      go_wp2
      go_ret
      exact ⟨ret_bool (by simp), by assumption⟩
  · go_enter Tryd.func19, Tryd.ntmps19
    go_wp2_with fail
    generalize w.alloc (.cells #[.int .i64 3, .bool b, .int .i64 i, .string s] 23) = W at hB hN ⊢
    go_region_held3 (fun W' => W'.cell? ⟨w.heap.size, 0, none⟩ = some (.int .i64 3) ∧ W'.cell? ⟨w.heap.size, 1, none⟩ = some (.bool b) ∧ W'.cell? ⟨w.heap.size, 2, none⟩ = some (.int .i64 i) ∧ W'.cell? ⟨w.heap.size, 3, none⟩ = some (.string s) ∧ Below w.heap.size w W') ((first | assumption | exact start_c4 hB hN | exact keep_c4 (by assumption) (by assumption))) (first | ((go_at_call 18; refine (mkText_any _ _).mono ?_; rintro e w1 ⟨rfl, hb⟩; unfold V.val)) | ((fail)))
    all_goals
      go_wp2
      go_ret
      exact ⟨ret_bool (by simp), below_c4 (by assumption)⟩

attribute [local go_sem high] eqV
set_option maxHeartbeats 1000000 in
theorem right_any (x : V) (w : World) : Calls Tryd.prog 19 #[x.val] w fun e w' => e = .returned (.bool (rightV x)) ∧ Below w.heap.size w w' := by
  obtain ⟨k, b, i, s⟩ := x
  by_cases h0 : k = 0
  · subst h0
    have hB := below_alloc (Below.refl w.heap.size w) (.cells #[.int .i64 0, .bool b, .int .i64 i, .string s] 23)
    have hN := blk_new w (.cells #[.int .i64 0, .bool b, .int .i64 i, .string s] 23)
    unfold V.val
    go_enter Tryd.func19, Tryd.ntmps19
    go_wp2_with fail
    generalize w.alloc (.cells #[.int .i64 0, .bool b, .int .i64 i, .string s] 23) = W at hB hN ⊢
    go_region_held3 (fun W' => W'.cell? ⟨w.heap.size, 0, none⟩ = some (.int .i64 0) ∧ W'.cell? ⟨w.heap.size, 1, none⟩ = some (.bool b) ∧ W'.cell? ⟨w.heap.size, 2, none⟩ = some (.int .i64 i) ∧ W'.cell? ⟨w.heap.size, 3, none⟩ = some (.string s) ∧ Below w.heap.size w W') ((first | assumption | exact start_c4 hB hN | exact keep_c4 (by assumption) (by assumption))) (first | ((go_at_call 15; refine (null_any _).mono ?_; rintro e w1 ⟨rfl, hb⟩; unfold V.val)) | ((fail)))
    all_goals
      go_wp2
      go_ret
      exact ⟨ret_bool (by simp [rightV, eqVB, nil_toList]), below_c4 (by assumption)⟩
  by_cases h1 : k = 1
  · subst h1
    have hB := below_alloc (Below.refl w.heap.size w) (.cells #[.int .i64 1, .bool b, .int .i64 i, .string s] 23)
    have hN := blk_new w (.cells #[.int .i64 1, .bool b, .int .i64 i, .string s] 23)
    unfold V.val
    go_enter Tryd.func19, Tryd.ntmps19
    go_wp2_with fail
    generalize w.alloc (.cells #[.int .i64 1, .bool b, .int .i64 i, .string s] 23) = W at hB hN ⊢
    go_region_held3 (fun W' => W'.cell? ⟨w.heap.size, 0, none⟩ = some (.int .i64 1) ∧ W'.cell? ⟨w.heap.size, 1, none⟩ = some (.bool b) ∧ W'.cell? ⟨w.heap.size, 2, none⟩ = some (.int .i64 i) ∧ W'.cell? ⟨w.heap.size, 3, none⟩ = some (.string s) ∧ Below w.heap.size w W') ((first | assumption | exact start_c4 hB hN | exact keep_c4 (by assumption) (by assumption))) (first | ((go_at_call 16; refine (mkBool_any _ _).mono ?_; rintro e w1 ⟨rfl, hb⟩; unfold V.val)) | ((fail)))
    all_goals
      go_wp2
      go_ret
      exact ⟨ret_bool (by simp [rightV, eqVB, nil_toList]), below_c4 (by assumption)⟩
  by_cases h2 : k = 2
  · subst h2
    have hB := below_alloc (Below.refl w.heap.size w) (.cells #[.int .i64 2, .bool b, .int .i64 i, .string s] 23)
    have hN := blk_new w (.cells #[.int .i64 2, .bool b, .int .i64 i, .string s] 23)
    unfold V.val
    go_enter Tryd.func19, Tryd.ntmps19
    go_wp2_with fail
    generalize w.alloc (.cells #[.int .i64 2, .bool b, .int .i64 i, .string s] 23) = W at hB hN ⊢
    go_region_held3 (fun W' => W'.cell? ⟨w.heap.size, 0, none⟩ = some (.int .i64 2) ∧ W'.cell? ⟨w.heap.size, 1, none⟩ = some (.bool b) ∧ W'.cell? ⟨w.heap.size, 2, none⟩ = some (.int .i64 i) ∧ W'.cell? ⟨w.heap.size, 3, none⟩ = some (.string s) ∧ Below w.heap.size w W') ((first | assumption | exact start_c4 hB hN | exact keep_c4 (by assumption) (by assumption))) (first | ((go_at_call 17; refine (mkInt_any _ _).mono ?_; rintro e w1 ⟨rfl, hb⟩; unfold V.val)) | ((fail)))
    all_goals
      go_wp2
      go_ret
      exact ⟨ret_bool (by simp [rightV, eqVB, nil_toList]), below_c4 (by assumption)⟩
  by_cases h3 : k = 3
  · subst h3
    exact right_text b i s w
  · have e0 : (k == 0) = false := beq_eq_false_iff_ne.2 h0
    have e1 : (k == 1) = false := beq_eq_false_iff_ne.2 h1
    have e2 : (k == 2) = false := beq_eq_false_iff_ne.2 h2
    have e3 : (k == 3) = false := beq_eq_false_iff_ne.2 h3
    unfold V.val
    go_enter Tryd.func19, Tryd.ntmps19
    go_wp2
    go_ret
    exact ⟨ret_bool (by simp [rightV, h0, h1, h2, h3]), below_alloc (Below.refl w.heap.size w) _⟩

set_option maxHeartbeats 1000000 in
theorem ref_right (x : V) (w : World) : Calls Tryd.prog 20 #[x.val] w fun e w' => e = .returned (.bool (rightV x)) ∧ Below w.heap.size w w' := by
  obtain ⟨k, b, i, s⟩ := x
  unfold V.val
  by_cases h0 : k = 0
  case' pos => subst h0
  case' neg =>
    by_cases h1 : k = 1
    case' pos => subst h1
    case' neg =>
      by_cases h2 : k = 2
      case' pos => subst h2
      case' neg =>
        by_cases h3 : k = 3
        case' pos => subst h3
        case' neg =>
          have e1 : (k == 1) = false := beq_eq_false_iff_ne.2 h1
          have e2 : (k == 2) = false := beq_eq_false_iff_ne.2 h2
          have e3 : (k == 3) = false := beq_eq_false_iff_ne.2 h3
          have hneg : ¬ (0 ≤ k ∧ k ≤ 3) := by omega
          by_cases hlt : k < 0
  all_goals
    go_enter Tryd.func20, Tryd.ntmps20
    go_wp2
  all_goals go_ret
  all_goals refine ⟨ret_bool ?_, below_alloc (below_alloc (Below.refl w.heap.size w) _) _⟩
  all_goals try (simp [rightV, *]; done)
  all_goals (have := @toList_nil s; simp_all [rightV, eqVB, nil_toList])
end Go.Proofs.YtmkikigikedjoaaDoor.Op
