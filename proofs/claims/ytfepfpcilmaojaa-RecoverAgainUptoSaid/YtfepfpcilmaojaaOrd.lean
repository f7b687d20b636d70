/- The order of names, as recover.order tells it. -/
import Derived.Test.YtfepfpcilmaojaaKeyed
import Derived.Test.YtfepfpcilmaojaaQOx1
import Derived.Sort.Grow
namespace Go.Proofs.Ytfepfpcilmaojaa.QV
open Go.RowKit Go.Proofs.YtfepfpcilmaojaaW.PrintWords Go.Proofs.Ytfepfpcilmaojaa.SeqW Go.Proofs.Ytfepfpcilmaojaa.Mp
set_option linter.unusedVariables false
set_option linter.unusedSimpArgs false
set_option maxRecDepth 100000
/-- W is w, with draws and new blocks. -/
def Gr (w W : World) : Prop := ∃ q os, W = Sort.grow (w.drewN q) os
theorem Gr.refl (w : World) : Gr w w := ⟨0, #[], by rw [Sort.grow_empty]; rfl⟩
theorem Gr.trans {a b c : World} (h : Gr a b) (k : Gr b c) : Gr a c := by
  obtain ⟨q, os, rfl⟩ := h
  obtain ⟨q', os', rfl⟩ := k
  refine ⟨q + q', os ++ os', ?_⟩
  simp only [Sort.grow, World.drewN, Array.append_assoc, Nat.add_assoc]
theorem Gr.alloc {a b : World} (h : Gr a b) (o : Obj) : Gr a (b.alloc o) := h.trans ⟨0, #[o], by rw [Sort.alloc_eq_grow]; rfl⟩
theorem Gr.drew {a b : World} (h : Gr a b) : Gr a b.drew := h.trans ⟨1, #[], by rw [Sort.grow_empty]; rfl⟩
theorem Gr.drawn0 {a b c : World} (h : Gr a b) (k : Drawn0 b c) : Gr a c := by
  obtain ⟨n, rfl⟩ := k.out
  exact h.trans ⟨n, #[], by rw [Sort.grow_empty]⟩
theorem Gr.below {a b : World} (h : Gr a b) : Below a.heap.size a b := by
  obtain ⟨q, os, rfl⟩ := h
  exact ⟨rfl, rfl, rfl, by simp [Sort.grow, World.drewN], fun k hk => by simp only [Sort.grow, World.drewN]; exact Array.getElem?_append_left hk⟩
def cU (a b : Int) : Int := if a < b then -1 else if b < a then 1 else 0
/-- The order of names. -/
def cmpNm (a b : Nm) : Int := if cU a.f0 b.f0 = 0 then cU a.f1 b.f1 else cU a.f0 b.f0
theorem cmp64_f (a b : Int) : QO.cmp_Compare_uint64.f a b = some (cU a b) := by
  unfold cU
  have e : (a != a) = false := by simp
  have e' : (b != b) = false := by simp
  by_cases h1 : a < b
  · simp [QO.cmp_Compare_uint64.f, QO.cmp_isNaN_uint64.f, h1]
  · by_cases h2 : b < a
    · simp [QO.cmp_Compare_uint64.f, QO.cmp_isNaN_uint64.f, if_neg h1, if_pos h2]
    · simp [QO.cmp_Compare_uint64.f, QO.cmp_isNaN_uint64.f, if_neg h1, if_neg h2]
theorem cmp32_f (a b : Int) : QO.cmp_Compare_uint32.f a b = some (cU a b) := by
  unfold cU
  have e : (a != a) = false := by simp
  have e' : (b != b) = false := by simp
  by_cases h1 : a < b
  · simp [QO.cmp_Compare_uint32.f, QO.cmp_isNaN_uint32.f, h1]
  · by_cases h2 : b < a
    · simp [QO.cmp_Compare_uint32.f, QO.cmp_isNaN_uint32.f, if_neg h1, if_pos h2]
    · simp [QO.cmp_Compare_uint32.f, QO.cmp_isNaN_uint32.f, if_neg h1, if_neg h2]
theorem or_f (a b : Int) : QO.cmp_Or_int.f 3 [a, b] = some (if a = 0 then b else a) := by
  simp [QO.cmp_Or_int.f, QO.cmp_Or_int.l0, rd, wrap64]
  (repeat split) <;> first | rfl | omega | simp_all

set_option maxHeartbeats 4000000 in
theorem order_any (a b : Nm) (w : World) :
    Calls Try.prog 40 #[.agg #[.int .u64 a.f0, .int .u32 a.f1], .agg #[.int .u64 b.f0, .int .u32 b.f1]] w fun e w' => e = .returned (.int .i64 (cmpNm a b)) ∧ Gr w w' := by
  go_enter Try.func40, Try.ntmps40
  go_wp2
  refine wp_at (S := fun W => Gr w W ∧ W.heap[w.heap.size]? = some (.cells #[.int .u64 a.f0, .int .u32 a.f1] tNm (0, 0)) ∧ W.heap[w.heap.size + 1]? = some (.cells #[.int .u64 b.f0, .int .u32 b.f1] tNm (0, 0))) ⟨((Gr.refl w).alloc _).alloc _, blk_alloc (blk_new w _) _, ?_⟩ ?_
  · have := blk_new (w.alloc (.cells #[.int .u64 a.f0, .int .u32 a.f1] tNm)) (.cells #[.int .u64 b.f0, .int .u32 b.f1] tNm)
    rwa [World.size_alloc] at this
  rintro W0 ⟨hG0, ha, hb⟩
  have S0 : ∀ V, Gr W0 V → V.cell? ⟨w.heap.size, 0, none⟩ = some (.int .u64 a.f0) ∧ V.cell? ⟨w.heap.size, 1, none⟩ = some (.int .u32 a.f1) ∧ V.cell? ⟨w.heap.size + 1, 0, none⟩ = some (.int .u64 b.f0) ∧ V.cell? ⟨w.heap.size + 1, 1, none⟩ = some (.int .u32 b.f1) :=
    fun V hV => ⟨blk_cell (blk_below ha hV.below) 0, blk_cell (blk_below ha hV.below) 1, blk_cell (blk_below hb hV.below) 0, blk_cell (blk_below hb hV.below) 1⟩
  refine (wpIn_wide (n := 0)).1 ?_
  refine wpIn_region_R (l := 0) 13 (S := fun V => V.cell? ⟨w.heap.size, 0, none⟩ = some (.int .u64 a.f0) ∧ V.cell? ⟨w.heap.size, 1, none⟩ = some (.int .u32 a.f1) ∧ V.cell? ⟨w.heap.size + 1, 0, none⟩ = some (.int .u64 b.f0) ∧ V.cell? ⟨w.heap.size + 1, 1, none⟩ = some (.int .u32 b.f1)) (by kernel_rfl) (S0 _ (Gr.refl _).drew) (fun hS0 => ?_)
  refine wpAnyR_take (i := 0) (oi := ⟨some 5, _, _, _, _, _⟩) (v := ?_) (by kernel_rfl) (by kernel_rfl) rfl (by kernel_rfl) (by kernel_rfl) (by kernel_rfl) (fun _ _ _ h => h) (Or.inl ⟨by rfl, ?_⟩) (by assumption) ?_
  rotate_left
  · intro w hSw; (try dsimp only at hSw); (try go_split_ands); go_simp; (try (with_reducible rfl))
  (try simp only [Act.put, List.setIfInBounds_toArray, List.set_cons_zero, List.set_cons_succ])
  refine wpAnyR_take (i := 1) (oi := ⟨some 6, _, _, _, _, _⟩) (v := ?_) (by kernel_rfl) (by kernel_rfl) rfl (by kernel_rfl) (by kernel_rfl) (by kernel_rfl) (fun _ _ _ h => h) (Or.inl ⟨by rfl, ?_⟩) (by assumption) ?_
  rotate_left
  · intro w hSw; (try dsimp only at hSw); (try go_split_ands); go_simp; (try (with_reducible rfl))
  (try simp only [Act.put, List.setIfInBounds_toArray, List.set_cons_zero, List.set_cons_succ])
  refine wpAnyR_take (i := 2) (oi := ⟨some 7, _, _, _, _, _⟩) (v := ?_) (by kernel_rfl) (by kernel_rfl) rfl (by kernel_rfl) (by kernel_rfl) (by kernel_rfl) (fun _ _ _ h => h) (Or.inl ⟨by rfl, ?_⟩) (by assumption) ?_
  rotate_left
  · intro w hSw; (try dsimp only at hSw); (try go_split_ands); go_simp; (try (with_reducible rfl))
  (try simp only [Act.put, List.setIfInBounds_toArray, List.set_cons_zero, List.set_cons_succ])
  refine wpAnyR_take (i := 3) (oi := ⟨some 8, _, _, _, _, _⟩) (v := ?_) (by kernel_rfl) (by kernel_rfl) rfl (by kernel_rfl) (by kernel_rfl) (by kernel_rfl) (fun _ _ _ h => h) (Or.inl ⟨by rfl, ?_⟩) (by assumption) ?_
  rotate_left
  · intro w hSw; (try dsimp only at hSw); (try go_split_ands); go_simp; (try (with_reducible rfl))
  (try simp only [Act.put, List.setIfInBounds_toArray, List.set_cons_zero, List.set_cons_succ])
  refine wpAnyR_take (i := 5) (oi := ⟨some 10, _, _, _, _, _⟩) (v := ?_) (by kernel_rfl) (by kernel_rfl) rfl (by kernel_rfl) (by kernel_rfl) (by kernel_rfl) (fun _ _ _ h => h) (Or.inl ⟨by rfl, ?_⟩) (by assumption) ?_
  rotate_left
  · intro w hSw; (try dsimp only at hSw); (try go_split_ands); go_simp; (try (with_reducible rfl))
  (try simp only [Act.put, List.setIfInBounds_toArray, List.set_cons_zero, List.set_cons_succ])
  refine wpAnyR_take (i := 6) (oi := ⟨some 11, _, _, _, _, _⟩) (v := ?_) (by kernel_rfl) (by kernel_rfl) rfl (by kernel_rfl) (by kernel_rfl) (by kernel_rfl) (fun _ _ _ h => h) (Or.inl ⟨by rfl, ?_⟩) (by assumption) ?_
  rotate_left
  · intro w hSw; (try dsimp only at hSw); (try go_split_ands); go_simp; (try (with_reducible rfl))
  (try simp only [Act.put, List.setIfInBounds_toArray, List.set_cons_zero, List.set_cons_succ])
  refine wpAnyR_take (i := 7) (oi := ⟨some 12, _, _, _, _, _⟩) (v := ?_) (by kernel_rfl) (by kernel_rfl) rfl (by kernel_rfl) (by kernel_rfl) (by kernel_rfl) (fun _ _ _ h => h) (Or.inl ⟨by rfl, ?_⟩) (by assumption) ?_
  rotate_left
  · intro w hSw; (try dsimp only at hSw); (try go_split_ands); go_simp; (try (with_reducible rfl))
  (try simp only [Act.put, List.setIfInBounds_toArray, List.set_cons_zero, List.set_cons_succ])
  refine wpAnyR_take (i := 8) (oi := ⟨some 13, _, _, _, _, _⟩) (v := ?_) (by kernel_rfl) (by kernel_rfl) rfl (by kernel_rfl) (by kernel_rfl) (by kernel_rfl) (fun _ _ _ h => h) (Or.inl ⟨by rfl, ?_⟩) (by assumption) ?_
  rotate_left
  · intro w hSw; (try dsimp only at hSw); (try go_split_ands); go_simp; (try (with_reducible rfl))
  (try simp only [Act.put, List.setIfInBounds_toArray, List.set_cons_zero, List.set_cons_succ])
  refine wpAnyR_one (i := 4) (o := ⟨some 9, _, _, _, _, _⟩) (by kernel_rfl) (by kernel_rfl) rfl (fun K hK => ?_)
  go_simp
  refine (QO.cmp_Compare_uint64.calls a.f0 b.f0 _ _ (cmp64_f _ _)).mono ?_
  rintro e W1 ⟨rfl, hD1⟩
  have hG1 : Gr W0 W1 := ((Gr.refl W0).drew).drawn0 hD1
  (try dsimp only)
  refine hK.out _ _ (.inr (S0 _ hG1)) ?_
  clear hK K
  (try simp only [Act.put, List.setIfInBounds_toArray, List.set_cons_zero, List.set_cons_succ])
  refine wpAnyR_one (i := 9) (o := ⟨some 14, _, _, _, _, _⟩) (by kernel_rfl) (by kernel_rfl) rfl (fun K hK => ?_)
  go_simp
  refine (QO.cmp_Compare_uint32.calls a.f1 b.f1 _ _ (cmp32_f _ _)).mono ?_
  rintro e W2 ⟨rfl, hD2⟩
  have hG2 : Gr W0 W2 := hG1.drawn0 hD2
  (try dsimp only)
  refine hK.out _ _ (.inr (S0 _ hG2)) ?_
  clear hK K
  (try simp only [Act.put, List.setIfInBounds_toArray, List.set_cons_zero, List.set_cons_succ])
  refine wpAnyR_one (i := 10) (o := ⟨some 15, _, _, _, _, _⟩) (by kernel_rfl) (by kernel_rfl) rfl (fun K hK => ?_)
  go_simp
  have hG3 : Gr W0 (W2.alloc (.cells #[.int .i64 (cU a.f0 b.f0), .int .i64 (cU a.f1 b.f1)] 3)) := hG2.alloc _
  refine hK.out _ _ (.inr (S0 _ hG3)) ?_
  clear hK K
  (try simp only [Act.put, List.setIfInBounds_toArray, List.set_cons_zero, List.set_cons_succ])
  have hrd : Kd.C (Kd.int .i64) (W2.alloc (.cells #[.int .i64 (cU a.f0 b.f0), .int .i64 (cU a.f1 b.f1)] 3)) (some ⟨W2.heap.size, 0, none⟩) 2 [cU a.f0 b.f0, cU a.f1 b.f1] := by
    have h := own_lit W2 0 3 .i64 [cU a.f0 b.f0, cU a.f1 b.f1] (Nat.zero_le _) (by simp)
    obtain ⟨A, c, e, hr⟩ := own_reads h
    simp at e
    obtain ⟨rfl, rfl⟩ := e
    exact Kd.C_of_reads hr
  refine wpAnyR_one (i := 11) (o := ⟨some 16, _, _, _, _, _⟩) (by kernel_rfl) (by kernel_rfl) rfl (fun K hK => ?_)
  go_simp
  refine (QO.cmp_Or_int.calls 3 (some ⟨W2.heap.size, 0, none⟩) 2 [cU a.f0 b.f0, cU a.f1 b.f1] _ _ hrd (by simp) (show QO.cmp_Or_int.f 3 [cU a.f0 b.f0, cU a.f1 b.f1] = some (cmpNm a b) from or_f _ _)).mono ?_
  rintro e W4 ⟨rfl, hD4⟩
  have hG4 : Gr W0 W4 := hG3.drawn0 hD4
  (try dsimp only)
  refine hK.out _ _ (.inr (S0 _ hG4)) ?_
  clear hK K
  (try simp only [Act.put, List.setIfInBounds_toArray, List.set_cons_zero, List.set_cons_succ])
  have hS4 := S0 _ hG4
  refine wpAnyR_take (i := 12) (oi := ⟨some 4, _, _, _, _, _⟩) (v := ?_) (by kernel_rfl) (by kernel_rfl) rfl (by kernel_rfl) (by kernel_rfl) (by kernel_rfl) (fun _ _ _ h => h) (Or.inl ⟨by rfl, ?_⟩) (by assumption) ?_
  rotate_left
  · intro w hSw; (try dsimp only at hSw); (try go_split_ands); go_simp; (try (with_reducible rfl))
  (try simp only [Act.put, List.setIfInBounds_toArray, List.set_cons_zero, List.set_cons_succ])
  refine wpAnyR_done (by kernel_rfl) ?_ _
  go_wp2
  go_ret
  exact ⟨rfl, hG0.trans hG4⟩
end Go.Proofs.Ytfepfpcilmaojaa.QV
