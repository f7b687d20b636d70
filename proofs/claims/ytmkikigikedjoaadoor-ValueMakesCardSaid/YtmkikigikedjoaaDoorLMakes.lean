/- ValueMakes: the walk. (IN WORK) -/
import Derived.Test.YtmkikigikedjoaaDoorAlive2
import Derived.Test.YtmkikigikedjoaaDoorFits
import Derived.Deep.RegionHeld3
namespace Go.Proofs.YtmkikigikedjoaaDoor.Op
open Go.RowKit Go.Proofs.YtmkikigikedjoaaDoorW.PrintWords
set_option linter.unusedVariables false
set_option linter.unusedSimpArgs false
attribute [local go_sem high] eqV

theorem keep_c34 {w W w1 : World} {g h : Nat} {v0 v1 v2 v3 v4 v5 v6 : Value} (hb : Below W.heap.size W w1) (q : W.cell? ⟨g, 0, none⟩ = some v0 ∧ W.cell? ⟨g, 1, none⟩ = some v1 ∧ W.cell? ⟨g, 2, none⟩ = some v2 ∧ W.cell? ⟨h, 0, none⟩ = some v3 ∧ W.cell? ⟨h, 1, none⟩ = some v4 ∧ W.cell? ⟨h, 2, none⟩ = some v5 ∧ W.cell? ⟨h, 3, none⟩ = some v6 ∧ Below w.heap.size w W) : w1.cell? ⟨g, 0, none⟩ = some v0 ∧ w1.cell? ⟨g, 1, none⟩ = some v1 ∧ w1.cell? ⟨g, 2, none⟩ = some v2 ∧ w1.cell? ⟨h, 0, none⟩ = some v3 ∧ w1.cell? ⟨h, 1, none⟩ = some v4 ∧ w1.cell? ⟨h, 2, none⟩ = some v5 ∧ w1.cell? ⟨h, 3, none⟩ = some v6 ∧ Below w.heap.size w w1 :=
  ⟨pw_cell_below hb q.1, pw_cell_below hb q.2.1, pw_cell_below hb q.2.2.1, pw_cell_below hb q.2.2.2.1, pw_cell_below hb q.2.2.2.2.1, pw_cell_below hb q.2.2.2.2.2.1, pw_cell_below hb q.2.2.2.2.2.2.1, q.2.2.2.2.2.2.2.trans (hb.mono q.2.2.2.2.2.2.2.size)⟩
theorem start_c34 {w W : World} {g h : Nat} {t t' : TypeId} {v0 v1 v2 v3 v4 v5 v6 : Value} (hB : Below w.heap.size w W) (hg : W.heap[g]? = some (.cells #[v0, v1, v2] t (0, 0))) (hh : W.heap[h]? = some (.cells #[v3, v4, v5, v6] t' (0, 0))) : W.drew.cell? ⟨g, 0, none⟩ = some v0 ∧ W.drew.cell? ⟨g, 1, none⟩ = some v1 ∧ W.drew.cell? ⟨g, 2, none⟩ = some v2 ∧ W.drew.cell? ⟨h, 0, none⟩ = some v3 ∧ W.drew.cell? ⟨h, 1, none⟩ = some v4 ∧ W.drew.cell? ⟨h, 2, none⟩ = some v5 ∧ W.drew.cell? ⟨h, 3, none⟩ = some v6 ∧ Below w.heap.size w W.drew :=
  ⟨(blk_cell hg 0).trans rfl, (blk_cell hg 1).trans rfl, (blk_cell hg 2).trans rfl, (blk_cell hh 0).trans rfl, (blk_cell hh 1).trans rfl, (blk_cell hh 2).trans rfl, (blk_cell hh 3).trans rfl, below_drew hB⟩
theorem below_c34 {w W : World} {g h : Nat} {v0 v1 v2 v3 v4 v5 v6 : Value} (q : W.cell? ⟨g, 0, none⟩ = some v0 ∧ W.cell? ⟨g, 1, none⟩ = some v1 ∧ W.cell? ⟨g, 2, none⟩ = some v2 ∧ W.cell? ⟨h, 0, none⟩ = some v3 ∧ W.cell? ⟨h, 1, none⟩ = some v4 ∧ W.cell? ⟨h, 2, none⟩ = some v5 ∧ W.cell? ⟨h, 3, none⟩ = some v6 ∧ Below w.heap.size w W) : Below w.heap.size w W := q.2.2.2.2.2.2.2

set_option maxHeartbeats 2000000 in
theorem walkMakes (c : Cn) (x : V) (w : World) (hT : Tb w) :
    Calls Tryd.prog 4 #[c.val, x.val] w fun e w' => e = .returned (.bool true) ∧ Below w.heap.size w w' := by
  have h1 := fun w => right_any x w
  have h2 := fun w => ref_right x w
  have h3 := fun w => fits_any c x w
  have h4 := fun w => ref_fits c x w
  generalize fitsV c x = f at h3 h4
  generalize rightV x = r at h1 h2
  obtain ⟨cn, ck, cu⟩ := c
  obtain ⟨k, b, i, s⟩ := x
  unfold V.val at h1 h2
  unfold V.val Cn.val at h3 h4
  unfold V.val Cn.val
  have H1 := Lib.hid h1
  have H2 := Lib.hid h2
  have H3 := Lib.hid h3
  have H4 := Lib.hid h4
  clear h1 h2 h3 h4
  have hB := below_alloc (below_alloc (Below.refl w.heap.size w) (.cells #[.string cn, .int .i64 ck, .bool cu] 28)) (.cells #[.int .i64 k, .bool b, .int .i64 i, .string s] 23)
  have hN := blk_alloc (blk_new w (.cells #[.string cn, .int .i64 ck, .bool cu] 28)) (.cells #[.int .i64 k, .bool b, .int .i64 i, .string s] 23)
  have hM := blk_new (w.alloc (.cells #[.string cn, .int .i64 ck, .bool cu] 28)) (.cells #[.int .i64 k, .bool b, .int .i64 i, .string s] 23)
  rw [World.size_alloc] at hM
  go_enter Tryd.func4, Tryd.ntmps4
  go_wp2_with fail
  generalize (w.alloc (.cells #[.string cn, .int .i64 ck, .bool cu] 28)).alloc (.cells #[.int .i64 k, .bool b, .int .i64 i, .string s] 23) = W at hB hN hM ⊢
  first | go_region_held3 (fun W' => W'.cell? ⟨w.heap.size, 0, none⟩ = some (.string cn) ∧ W'.cell? ⟨w.heap.size, 1, none⟩ = some (.int .i64 ck) ∧ W'.cell? ⟨w.heap.size, 2, none⟩ = some (.bool cu) ∧ W'.cell? ⟨w.heap.size + 1, 0, none⟩ = some (.int .i64 k) ∧ W'.cell? ⟨w.heap.size + 1, 1, none⟩ = some (.bool b) ∧ W'.cell? ⟨w.heap.size + 1, 2, none⟩ = some (.int .i64 i) ∧ W'.cell? ⟨w.heap.size + 1, 3, none⟩ = some (.string s) ∧ Below w.heap.size w W') ((first | assumption | exact start_c34 hB hN hM | exact keep_c34 (by assumption) (by assumption)))
    (first | ((go_at_call 15; refine (null_any _).mono ?_; rintro e w1 ⟨rfl, hb⟩; unfold V.val)) | ((go_at_call 16; refine (mkBool_any _ _).mono ?_; rintro e w1 ⟨rfl, hb⟩; unfold V.val)) | ((go_at_call 17; refine (mkInt_any _ _).mono ?_; rintro e w1 ⟨rfl, hb⟩; unfold V.val)) | ((go_at_call 18; refine (mkText_any _ _).mono ?_; rintro e w1 ⟨rfl, hb⟩; unfold V.val))) | fail
  go_wp2_with fail
  first | go_region_held3 (fun W' => W'.cell? ⟨w.heap.size, 0, none⟩ = some (.string cn) ∧ W'.cell? ⟨w.heap.size, 1, none⟩ = some (.int .i64 ck) ∧ W'.cell? ⟨w.heap.size, 2, none⟩ = some (.bool cu) ∧ W'.cell? ⟨w.heap.size + 1, 0, none⟩ = some (.int .i64 k) ∧ W'.cell? ⟨w.heap.size + 1, 1, none⟩ = some (.bool b) ∧ W'.cell? ⟨w.heap.size + 1, 2, none⟩ = some (.int .i64 i) ∧ W'.cell? ⟨w.heap.size + 1, 3, none⟩ = some (.string s) ∧ Below w.heap.size w W') ((first | assumption | exact keep_c34 (below_drew (Below.refl _ _)) (by assumption) | exact keep_c34 (by assumption) (by assumption)))
    (first | ((go_at_call 12; refine (alive2_any _ ?_).mono ?_; exact hT.below (below_c34 (by assumption)); rintro e w1 ⟨rfl, hb⟩)) | ((go_at_call 19; refine (H1.out _).mono ?_; rintro e w1 ⟨rfl, hb⟩)) | ((go_at_call 20; refine (H2.out _).mono ?_; rintro e w1 ⟨rfl, hb⟩)) | ((go_at_call 21; refine (H3.out _).mono ?_; rintro e w1 ⟨rfl, hb⟩)) | ((go_at_call 22; refine (H4.out _).mono ?_; rintro e w1 ⟨rfl, hb⟩))) | fail
  all_goals
    go_wp2
    go_ret
    exact ⟨ret_bool (by simp), below_c34 (by assumption)⟩
end Go.Proofs.YtmkikigikedjoaaDoor.Op
