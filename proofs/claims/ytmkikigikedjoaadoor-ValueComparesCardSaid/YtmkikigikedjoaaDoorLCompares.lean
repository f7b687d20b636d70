/- ValueCompares: the walk. -/
import Derived.Test.YtmkikigikedjoaaDoorAlive2
import Derived.Deep.RegionHeld3
namespace Go.Proofs.YtmkikigikedjoaaDoor.Op
open Go.RowKit Go.Proofs.YtmkikigikedjoaaDoorW.PrintWords
set_option linter.unusedVariables false

theorem keep_c44 {w W w1 : World} {g h : Nat} {v0 v1 v2 v3 v4 v5 v6 v7 : Value} (hb : Below W.heap.size W w1) (q : W.cell? ⟨g, 0, none⟩ = some v0 ∧ W.cell? ⟨g, 1, none⟩ = some v1 ∧ W.cell? ⟨g, 2, none⟩ = some v2 ∧ W.cell? ⟨g, 3, none⟩ = some v3 ∧ W.cell? ⟨h, 0, none⟩ = some v4 ∧ W.cell? ⟨h, 1, none⟩ = some v5 ∧ W.cell? ⟨h, 2, none⟩ = some v6 ∧ W.cell? ⟨h, 3, none⟩ = some v7 ∧ Below w.heap.size w W) : w1.cell? ⟨g, 0, none⟩ = some v0 ∧ w1.cell? ⟨g, 1, none⟩ = some v1 ∧ w1.cell? ⟨g, 2, none⟩ = some v2 ∧ w1.cell? ⟨g, 3, none⟩ = some v3 ∧ w1.cell? ⟨h, 0, none⟩ = some v4 ∧ w1.cell? ⟨h, 1, none⟩ = some v5 ∧ w1.cell? ⟨h, 2, none⟩ = some v6 ∧ w1.cell? ⟨h, 3, none⟩ = some v7 ∧ Below w.heap.size w w1 :=
  ⟨pw_cell_below hb q.1, pw_cell_below hb q.2.1, pw_cell_below hb q.2.2.1, pw_cell_below hb q.2.2.2.1, pw_cell_below hb q.2.2.2.2.1, pw_cell_below hb q.2.2.2.2.2.1, pw_cell_below hb q.2.2.2.2.2.2.1, pw_cell_below hb q.2.2.2.2.2.2.2.1, q.2.2.2.2.2.2.2.2.trans (hb.mono q.2.2.2.2.2.2.2.2.size)⟩
theorem start_c44 {w W : World} {g h : Nat} {t : TypeId} {v0 v1 v2 v3 v4 v5 v6 v7 : Value} (hB : Below w.heap.size w W) (hg : W.heap[g]? = some (.cells #[v0, v1, v2, v3] t (0, 0))) (hh : W.heap[h]? = some (.cells #[v4, v5, v6, v7] t (0, 0))) : W.drew.cell? ⟨g, 0, none⟩ = some v0 ∧ W.drew.cell? ⟨g, 1, none⟩ = some v1 ∧ W.drew.cell? ⟨g, 2, none⟩ = some v2 ∧ W.drew.cell? ⟨g, 3, none⟩ = some v3 ∧ W.drew.cell? ⟨h, 0, none⟩ = some v4 ∧ W.drew.cell? ⟨h, 1, none⟩ = some v5 ∧ W.drew.cell? ⟨h, 2, none⟩ = some v6 ∧ W.drew.cell? ⟨h, 3, none⟩ = some v7 ∧ Below w.heap.size w W.drew :=
  ⟨(blk_cell hg 0).trans rfl, (blk_cell hg 1).trans rfl, (blk_cell hg 2).trans rfl, (blk_cell hg 3).trans rfl, (blk_cell hh 0).trans rfl, (blk_cell hh 1).trans rfl, (blk_cell hh 2).trans rfl, (blk_cell hh 3).trans rfl, below_drew hB⟩
theorem below_c44 {w W : World} {g h : Nat} {v0 v1 v2 v3 v4 v5 v6 v7 : Value} (q : W.cell? ⟨g, 0, none⟩ = some v0 ∧ W.cell? ⟨g, 1, none⟩ = some v1 ∧ W.cell? ⟨g, 2, none⟩ = some v2 ∧ W.cell? ⟨g, 3, none⟩ = some v3 ∧ W.cell? ⟨h, 0, none⟩ = some v4 ∧ W.cell? ⟨h, 1, none⟩ = some v5 ∧ W.cell? ⟨h, 2, none⟩ = some v6 ∧ W.cell? ⟨h, 3, none⟩ = some v7 ∧ Below w.heap.size w W) : Below w.heap.size w W := q.2.2.2.2.2.2.2.2

set_option maxHeartbeats 1000000 in
theorem walkCompares (x y : V) (w : World) (hT : Tb w) :
    Calls Tryd.prog 3 #[x.val, y.val] w fun e w' => e = .returned (.bool true) ∧ Below w.heap.size w w' := by
  have h1 := fun w => compareV x y w
  have h2 := fun w => ref_compareV x y w
  generalize cmpV x y = n at h1 h2
  obtain ⟨k, b, i, s⟩ := x
  obtain ⟨k', b', i', s'⟩ := y
  unfold V.val at h1 h2 ⊢
  have H1 := Lib.hid h1
  have H2 := Lib.hid h2
  clear h1 h2
  have hB := below_alloc (below_alloc (Below.refl w.heap.size w) (.cells #[.int .i64 k, .bool b, .int .i64 i, .string s] 23)) (.cells #[.int .i64 k', .bool b', .int .i64 i', .string s'] 23)
  have hN := blk_alloc (blk_new w (.cells #[.int .i64 k, .bool b, .int .i64 i, .string s] 23)) (.cells #[.int .i64 k', .bool b', .int .i64 i', .string s'] 23)
  have hM := blk_new (w.alloc (.cells #[.int .i64 k, .bool b, .int .i64 i, .string s] 23)) (.cells #[.int .i64 k', .bool b', .int .i64 i', .string s'] 23)
  rw [World.size_alloc] at hM
  go_enter Tryd.func3, Tryd.ntmps3
  go_wp2_with fail
  generalize (w.alloc (.cells #[.int .i64 k, .bool b, .int .i64 i, .string s] 23)).alloc (.cells #[.int .i64 k', .bool b', .int .i64 i', .string s'] 23) = W at hB hN hM ⊢
  go_region_held3 (fun W' => W'.cell? ⟨w.heap.size, 0, none⟩ = some (.int .i64 k) ∧ W'.cell? ⟨w.heap.size, 1, none⟩ = some (.bool b) ∧ W'.cell? ⟨w.heap.size, 2, none⟩ = some (.int .i64 i) ∧ W'.cell? ⟨w.heap.size, 3, none⟩ = some (.string s) ∧ W'.cell? ⟨w.heap.size + 1, 0, none⟩ = some (.int .i64 k') ∧ W'.cell? ⟨w.heap.size + 1, 1, none⟩ = some (.bool b') ∧ W'.cell? ⟨w.heap.size + 1, 2, none⟩ = some (.int .i64 i') ∧ W'.cell? ⟨w.heap.size + 1, 3, none⟩ = some (.string s') ∧ Below w.heap.size w W') ((first | assumption | exact start_c44 hB hN hM | exact keep_c44 (by assumption) (by assumption)))
    (first | ((go_at_call 12; refine (alive2_any _ ?_).mono ?_; exact hT.below (below_c44 (by assumption)); rintro e w1 ⟨rfl, hb⟩)) | ((go_at_call 13; refine (H1.out _).mono ?_; rintro e w1 ⟨rfl, hb⟩)) | ((go_at_call 14; refine (H2.out _).mono ?_; rintro e w1 ⟨rfl, hb⟩)))
  all_goals
    go_wp2
    go_ret
    exact ⟨ret_bool (by simp), below_c44 (by assumption)⟩
end Go.Proofs.YtmkikigikedjoaaDoor.Op
