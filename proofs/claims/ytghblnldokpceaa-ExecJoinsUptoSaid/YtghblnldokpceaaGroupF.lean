/- exec.Group where the rows are counted, as a function. -/
import Derived.Test.YtghblnldokpceaaGroup1
import Derived.Test.YtghblnldokpceaaRoundW
namespace Go.Proofs.Ytghblnldokpceaa.QV
open Go.RowKit Go.Proofs.YtghblnldokpceaaW.PrintWords Go.Proofs.Ytghblnldokpceaa.SeqW Go.Shelf Go.Proofs.Ytghblnldokpceaa.Op
set_option linter.unusedVariables false
set_option linter.unusedSimpArgs false
attribute [local go_sem] Oper.semAt_some

theorem clone_ints_nil (w : World) : Calls Try.prog 37 #[.slice none 0 0] w fun e w' => e = .returned (.slice none 0 0) ∧ w' = w := by
  have hn := Lib.run_eql_slice_nil (P := Try.prog)
  go_enter Try.func37, Try.ntmps37
  go_wp2
  go_ret
  exact ⟨rfl, rfl⟩
abbrev kA : Kd S48 := k48
theorem infoA : (Try.prog.info? 48).map (fun i => (i.zero, i.size, i.bytes)) = some (some (.agg #[.int .i64 0, .int .i64 0]), 2, 16) := by kernel_rfl
theorem kA_KM {w W : World} {base : Nat} {ok : Nat → Prop} (x : S48) (cs : List Value) (h : kA.K w x cs) : kA.M W base ok x cs := by
  rw [k48_open h]; exact k48_mkM _ _ _ _
set_option maxHeartbeats 1000000 in
theorem clone_aggs (ad : Addr) (l : List S48) (c : Nat) (w : World) (hr : kA.C w (some ad) l.length l) (hc : l.length ≤ c) (hb : l.length * 16 ≤ 140737488355328) :
    Calls Try.prog 38 #[.slice (some ad) l.length c] w fun e w' => ∃ v, e = .returned v ∧ kA.R 48 w' w.heap.size (fun _ => True) v l ∧ Below w.heap.size w w' := by
  have hmax := hr.2.1
  have hn := Lib.run_eql_slice_nil (P := Try.prog)
  go_enter Try.func38, Try.ntmps38
  go_wp2_with (at_builtin; refine Kd.R_append_rows kA (w0 := w) w.heap.size rfl (.tmp 5) (.tmp 6) 36 48 _ 16 rfl Try.underlying36 infoA rfl (by decide) (by decide) (.slice (some ⟨w.heap.size, 0, none⟩) 0 0) [] l (some ad) l.length c (fun _ => True) (fun _ => False) rfl rfl (R_empty' kA _ _ _ _ (Nat.le_refl _) trivial) (Kd.C_below hr (below_alloc (Below.refl _ _) _)) (fun x cs h => kA_KM x cs h) (fun _ h => h.elim) (fun _ _ => trivial) (below_alloc (Below.refl _ _) _) (by simp) (by simp; omega) ?_; intro v1 w4 hv1 hB7 hg7 hat7; clear hg7 hat7)
  go_ret
  exact ⟨v1, rfl, by simpa using hv1, hB7⟩

set_option maxHeartbeats 2000000 in
theorem group_is1 (row : Row) (sv : Value) (ga : Nat) (w : World) (hR : IsSeq w sv [row]) (hga : ga < w.heap.size) (ha : kA.C w (some ⟨ga, 0, none⟩) 1 [⟨0, 0⟩]) (hb : row.length ≤ 1048576) :
    Calls Try.prog 16 #[sv, .slice none 0 0, .slice (some ⟨ga, 0, none⟩) 1 1] w fun e w' => ∃ v, e = .returned v ∧ IsOwn w' v [one1] ∧ Below w.heap.size w w' := by
  obtain ⟨gR, lbR, RdR, rfl, qR⟩ := hR
  have hR : IsSeq w (.func (.func gR) #[] lbR) [row] := ⟨gR, lbR, RdR, rfl, qR⟩
  clear qR
  go_enter Try.func16, Try.ntmps16
  go_wp2_with fail
  obtain ⟨w1, hw1⟩ : ∃ w1, ((w.alloc (.cells #[.func (.func gR) #[] lbR] 28)).alloc (.cells #[.slice none 0 0] 35)).alloc (.cells #[.slice (some ⟨ga, 0, none⟩) 1 1] 36) = w1 := ⟨_, rfl⟩
  rw [hw1]
  have hb1 : Below w.heap.size w w1 := by rw [← hw1]; exact below_alloc (below_alloc (below_alloc (Below.refl _ _) _) _) _
  have g0 : w1.heap[w.heap.size]? = some (.cells #[.func (.func gR) #[] lbR] 28 (0, 0)) := by rw [← hw1]; exact blk_alloc (blk_alloc (blk_new _ _) _) _
  have g1 : w1.heap[w.heap.size + 1]? = some (.cells #[.slice none 0 0] 35 (0, 0)) := by
    have := blk_new (w.alloc (.cells #[.func (.func gR) #[] lbR] 28)) (.cells #[.slice none 0 0] 35)
    rw [World.size_alloc] at this
    rw [← hw1]; exact blk_alloc this _
  have g2 : w1.heap[w.heap.size + 1 + 1]? = some (.cells #[.slice (some ⟨ga, 0, none⟩) 1 1] 36 (0, 0)) := by
    have := blk_new ((w.alloc (.cells #[.func (.func gR) #[] lbR] 28)).alloc (.cells #[.slice none 0 0] 35)) (.cells #[.slice (some ⟨ga, 0, none⟩) 1 1] 36)
    rw [World.size_alloc, World.size_alloc] at this
    rw [← hw1]; exact this
  clear hw1
  have hz1 := blk_lt g2
  have S0 : ∀ V, Below w1.heap.size w1 V → V.cell? ⟨w.heap.size + 1, 0, none⟩ = some (.slice none 0 0) ∧ V.cell? ⟨w.heap.size + 1 + 1, 0, none⟩ = some (.slice (some ⟨ga, 0, none⟩) 1 1) ∧ V.frozen? ⟨w.heap.size + 1, 0, none⟩ = false ∧ V.frozen? ⟨w.heap.size + 1 + 1, 0, none⟩ = false :=
    fun V hV => ⟨blk_cell (blk_below g1 hV) 0, blk_cell (blk_below g2 hV) 0, blk_frozen (blk_below g1 hV) 0, blk_frozen (blk_below g2 hV) 0⟩
  refine (wpIn_wide (n := 0)).1 ?_
  refine wpIn_region_R (l := 0) 5 (S := fun V => V.cell? ⟨w.heap.size + 1, 0, none⟩ = some (.slice none 0 0) ∧ V.cell? ⟨w.heap.size + 1 + 1, 0, none⟩ = some (.slice (some ⟨ga, 0, none⟩) 1 1) ∧ V.frozen? ⟨w.heap.size + 1, 0, none⟩ = false ∧ V.frozen? ⟨w.heap.size + 1 + 1, 0, none⟩ = false) (by kernel_rfl) (S0 _ (below_drew (Below.refl _ _))) (fun hS0 => ?_)
  refine wpAnyR_take (i := 0) (oi := ⟨some 7, _, _, _, _, _⟩) (v := ?_) (by kernel_rfl) (by kernel_rfl) rfl (by kernel_rfl) (by kernel_rfl) (by kernel_rfl) (fun _ _ _ h => h) (Or.inl ⟨by rfl, ?_⟩) (by assumption) ?_
  rotate_left
  · intro w hSw; (try dsimp only at hSw); (try go_split_ands); go_simp; (try (with_reducible rfl))
  (try simp only [Act.put, List.setIfInBounds_toArray, List.set_cons_zero, List.set_cons_succ])
  refine wpAnyR_take (i := 2) (oi := ⟨some 9, _, _, _, _, _⟩) (v := ?_) (by kernel_rfl) (by kernel_rfl) rfl (by kernel_rfl) (by kernel_rfl) (by kernel_rfl) (fun _ _ _ h => h) (Or.inl ⟨by rfl, ?_⟩) (by assumption) ?_
  rotate_left
  · intro w hSw; (try dsimp only at hSw); (try go_split_ands); go_simp; (try (with_reducible rfl))
  (try simp only [Act.put, List.setIfInBounds_toArray, List.set_cons_zero, List.set_cons_succ])
  refine wpAnyR_one (i := 1) (o := ⟨some 8, _, _, _, _, _⟩) (by kernel_rfl) (by kernel_rfl) rfl (fun K hK => ?_)
  go_simp
  refine (clone_ints_nil _).mono ?_
  rintro e w2 ⟨rfl, rfl⟩
  (try dsimp only)
  refine hK.out _ _ (.inr (S0 _ (below_drew (Below.refl _ _)))) ?_
  clear hK K
  (try simp only [Act.put, List.setIfInBounds_toArray, List.set_cons_zero, List.set_cons_succ])
  refine wpAnyR_one (i := 3) (o := ⟨some 10, _, _, _, _, _⟩) (by kernel_rfl) (by kernel_rfl) rfl (fun K hK => ?_)
  go_simp
  refine (clone_aggs ⟨ga, 0, none⟩ [⟨0, 0⟩] 1 _ (Kd.C_drew (Kd.C_below ha hb1)) (by simp) (by simp)).mono ?_
  rintro e w2 ⟨v2, rfl, hR2, hb2⟩
  have hb2' : Below w1.heap.size w1 w2 := (below_drew (Below.refl _ w1)).trans hb2
  (try dsimp only)
  refine hK.out _ _ (.inr (S0 _ hb2')) ?_
  clear hK K
  (try simp only [Act.put, List.setIfInBounds_toArray, List.set_cons_zero, List.set_cons_succ])
  obtain ⟨A3, c3', hv3, hle3, hC3⟩ := Kd.R_reads hR2
  obtain ⟨g3, c3, rfl, hg3b, hg3l, cells3, hcells3⟩ := Kd.R_form hR2 (by simp)
  have hg3b' : w1.heap.size ≤ g3 := hg3b
  injection hv3 with hA3
  subst hA3
  obtain ⟨ad3, cs3, hA3, _, hK3, hcs3⟩ := Kd.C_get hC3 ⟨0, 0⟩ 0 (by omega) (by simp)
  injection hA3 with hA3
  subst hA3
  have hop := k48_open hK3
  have e30 : w2.cell? ⟨g3, 0, none⟩ = some (.int .i64 0) := hcs3 0 _ (by rw [hop]; rfl)
  have e31 : w2.cell? ⟨g3, 1, none⟩ = some (.int .i64 0) := hcs3 1 _ (by rw [hop]; rfl)
  have hS2 := S0 _ hb2'
  obtain ⟨q1, q2, q3, q4⟩ := hS2
  refine wpAnyR_one (i := 4) (o := ⟨none, _, _, _, _, _⟩) (by kernel_rfl) (by kernel_rfl) rfl (fun K hK => ?_)
  go_simp
  obtain ⟨w3, hw3⟩ : ∃ w3, w2.setCell ⟨w.heap.size + 1, 0, none⟩ (.slice none 0 0) = w3 := ⟨_, rfl⟩
  rw [hw3]
  have hk3 : Seq.Kpt (fun i => i = w.heap.size + 1) w2 w3 := by rw [← hw3]; exact Seq.Kpt.setCell w2 ⟨w.heap.size + 1, 0, none⟩ _
  have g13 : w3.heap[w.heap.size + 1]? = some (.cells #[.slice none 0 0] 35 (0, 0)) := by rw [← hw3]; simpa using blk_set (blk_below g1 hb2') 0 (.slice none 0 0)
  have g23 : w3.heap[w.heap.size + 1 + 1]? = some (.cells #[.slice (some ⟨ga, 0, none⟩) 1 1] 36 (0, 0)) := hk3.at (blk_below g2 hb2') (by omega)
  clear hw3
  refine hK.out _ _ (.inr ⟨blk_cell g13 0, blk_cell g23 0, blk_frozen g13 0, blk_frozen g23 0⟩) ?_
  clear hK K
  (try simp only [Act.put, List.setIfInBounds_toArray, List.set_cons_zero, List.set_cons_succ])
  have t1 := blk_cell g23 0
  have t2 := blk_frozen g23 0
  refine wpAnyR_one (i := 5) (o := ⟨none, _, _, _, _, _⟩) (by kernel_rfl) (by kernel_rfl) rfl (fun K hK => ?_)
  go_simp
  refine hK.out _ _ (.inl rfl) ?_
  clear hK K
  (try simp only [Act.put, List.setIfInBounds_toArray, List.set_cons_zero, List.set_cons_succ])
  refine wpAnyR_done (by kernel_rfl) ?_ _
  go_wp2
  go_ret
  obtain ⟨w4, hw4⟩ : ∃ w4, w3.setCell ⟨w.heap.size + 1 + 1, 0, none⟩ (.slice (some ⟨g3, 0, none⟩) 1 c3') = w4 := ⟨_, rfl⟩
  rw [hw4]
  have hk4 : Seq.Kpt (fun i => i = w.heap.size + 1 + 1) w3 w4 := by rw [← hw4]; exact Seq.Kpt.setCell w3 ⟨w.heap.size + 1 + 1, 0, none⟩ _
  have g24 : w4.heap[w.heap.size + 1 + 1]? = some (.cells #[.slice (some ⟨g3, 0, none⟩) 1 c3'] 36 (0, 0)) := by rw [← hw4]; simpa using blk_set g23 0 (.slice (some ⟨g3, 0, none⟩) 1 c3')
  have g14 := hk4.at g13 (by omega)
  have g04 := hk4.at (hk3.at (blk_below g0 hb2') (by omega)) (by omega)
  have hg3 := hk4.at (hk3.at hcells3 (by omega)) (by omega)
  have hB4 : Below w.heap.size w w4 := (hb1.trans (hb2'.mono hb1.size)).trans ((hk3.trans hk4 (M := fun i => i = w.heap.size + 1 ∨ i = w.heap.size + 1 + 1) (fun _ _ h => h)).below (by have := hb2'.size; omega) (fun i _ h => by omega))
  refine ⟨_, rfl, ⟨_, _, rfl, fun args w => rfl, group_seq1 row _ _ _ _ g3 c3' w4 (hR.later hB4) (blk_cell g14 0) (blk_cell g04 0) (blk_cell g24 0) ?_ ?_ hb⟩, hB4⟩
  · rw [blk_cell hg3 0, ← blk_cell hcells3 0]; exact e30
  · rw [blk_cell hg3 1, ← blk_cell hcells3 1]; exact e31
end Go.Proofs.Ytghblnldokpceaa.QV
