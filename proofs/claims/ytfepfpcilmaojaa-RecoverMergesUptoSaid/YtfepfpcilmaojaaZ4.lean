/- The parts QVx8, QVx9, PutL, PutF, UR, Spoil, LAgain, WAgain, WMerges of this proof, one behind the other. -/
import Derived.Test.YtfepfpcilmaojaaZ3
import Derived.Handy
import Derived.Lib.Hide
import Derived.Lib.AppendStr
/- Printed by mp.py (this session's) with the kit's print: plain functions with the answers of the Go code, and the proofs of it. -/
namespace Go.Proofs.Ytfepfpcilmaojaa.QV
open Go.RowKit Go.Proofs.YtfepfpcilmaojaaW.PrintWords Go.Proofs.YtfepfpcilmaojaaW.PrintLast Go.Proofs.YtfepfpcilmaojaaW.PrintMore
attribute [local go_sem] max2_int min2_int max_two min_two max_three min_three max_four min_four   -- for this text's walks alone
set_option linter.unusedVariables false
set_option linter.unusedSimpArgs false

attribute [local go_sem high] eqA31
/-! ### hayloftref10_Put: function 34 -/
mutual
def hayloftref10_Put.l0 : Nat → List (S34) → List (S34) → Bool → Int → Int → Int → List (S36) → Int → Option ((List (S34)))
  | 0, _, _, _, _, _, _, _, _ => none
  | k + 1, x0, x5, x6, x7, x276000, x276001, x276002, x276003 => if x7 < (x0.length : Int) then (if x6 = true then (hayloftref10_Put.j1 k x0 x5 x6 x7 false x276000 x276001 x276002 x276003) else (if 0 ≤ x7 then ((hayloftref10_Less.f ((rd_T34 x0 x7).f0.f0) ((rd_T34 x0 x7).f0.f1) x276000 x276001).bind fun t280 => (hayloftref10_Put.j1 k x0 x5 x6 x7 (!t280) x276000 x276001 x276002 x276003)) else (none))) else (if x6 = true then (some x5) else (if x5.length < 2932031007402 then (some (x5 ++ [(⟨(⟨x276000, x276001⟩ : S31), x276002, x276003⟩ : S34)])) else (none)))
def hayloftref10_Put.j1 : Nat → List (S34) → List (S34) → Bool → Int → Bool → Int → Int → List (S36) → Int → Option ((List (S34)))
  | 0, _, _, _, _, _, _, _, _, _ => none
  | k + 1, x0, x5, x6, x7, x26, x276000, x276001, x276002, x276003 => if x26 = true then (if x5.length < 2932031007402 then ((some (x5 ++ [(⟨(⟨x276000, x276001⟩ : S31), x276002, x276003⟩ : S34)] : List (S34))).bind fun y281 => (if 0 ≤ x7 then (if x7 < (x0.length : Int) then (if (!(((rd_T34 x0 x7).f0.f0) == x276000) || (!(((rd_T34 x0 x7).f0.f1) == x276001))) = true then (if y281.length < 2932031007402 then (hayloftref10_Put.l0 k x0 (y281 ++ [(⟨(⟨(rd_T34 x0 x7).f0.f0, (rd_T34 x0 x7).f0.f1⟩ : S31), (rd_T34 x0 x7).f1, (rd_T34 x0 x7).f2⟩ : S34)]) true (wrap64 (x7 + 1)) x276000 x276001 x276002 x276003) else (none)) else (hayloftref10_Put.l0 k x0 y281 true (wrap64 (x7 + 1)) x276000 x276001 x276002 x276003)) else (none)) else (none))) else (none)) else (if 0 ≤ x7 then (if x7 < (x0.length : Int) then (if (!(((rd_T34 x0 x7).f0.f0) == x276000) || (!(((rd_T34 x0 x7).f0.f1) == x276001))) = true then (if x5.length < 2932031007402 then (hayloftref10_Put.l0 k x0 (x5 ++ [(⟨(⟨(rd_T34 x0 x7).f0.f0, (rd_T34 x0 x7).f0.f1⟩ : S31), (rd_T34 x0 x7).f1, (rd_T34 x0 x7).f2⟩ : S34)]) x6 (wrap64 (x7 + 1)) x276000 x276001 x276002 x276003) else (none)) else (hayloftref10_Put.l0 k x0 x5 x6 (wrap64 (x7 + 1)) x276000 x276001 x276002 x276003)) else (none)) else (none))
end
def hayloftref10_Put.f (k : Nat) (l0 : List (S34)) (a1_0 : Int) (a1_1 : Int) (l1_2 : List (S36)) (a1_3 : Int) : Option ((List (S34))) := hayloftref10_Put.l0 k l0 ([] : List (S34)) false 0 a1_0 a1_1 l1_2 a1_3
theorem hayloftref10_Put.mono_l : ∀ k, (∀ y0 y1 y2 y3 y4 y5 y6 y7, LeO (hayloftref10_Put.l0 k y0 y1 y2 y3 y4 y5 y6 y7) (hayloftref10_Put.l0 (k + 1) y0 y1 y2 y3 y4 y5 y6 y7)) ∧ (∀ y0 y1 y2 y3 y4 y5 y6 y7 y8, LeO (hayloftref10_Put.j1 k y0 y1 y2 y3 y4 y5 y6 y7 y8) (hayloftref10_Put.j1 (k + 1) y0 y1 y2 y3 y4 y5 y6 y7 y8))
  | 0 => ⟨fun _ _ _ _ _ _ _ _ r h => by simp [hayloftref10_Put.l0] at h, fun _ _ _ _ _ _ _ _ _ r h => by simp [hayloftref10_Put.j1] at h⟩
  | k + 1 => by
    obtain ⟨ih0, ih1⟩ := hayloftref10_Put.mono_l k
    refine ⟨?_, ?_⟩
    · intro y0 y1 y2 y3 y4 y5 y6 y7
      unfold hayloftref10_Put.l0
      repeat' first
      | (with_reducible exact ih0 _ _ _ _ _ _ _ _)
      | (with_reducible exact ih1 _ _ _ _ _ _ _ _ _)
      | (with_reducible exact LeO.refl _)
      | (with_reducible exact LeO.none _)
      | (with_reducible refine LeO.ite ?_ ?_)
      | (with_reducible refine LeO.bind ?_ (fun _ => ?_))
      | exact ih0 _ _ _ _ _ _ _ _
      | exact ih1 _ _ _ _ _ _ _ _ _
      | exact LeO.none _
      | refine LeO.ite ?_ ?_
      | refine LeO.bind ?_ (fun _ => ?_)
    · intro y0 y1 y2 y3 y4 y5 y6 y7 y8
      unfold hayloftref10_Put.j1
      repeat' first
      | (with_reducible exact ih0 _ _ _ _ _ _ _ _)
      | (with_reducible exact ih1 _ _ _ _ _ _ _ _ _)
      | (with_reducible exact LeO.refl _)
      | (with_reducible exact LeO.none _)
      | (with_reducible refine LeO.ite ?_ ?_)
      | (with_reducible refine LeO.bind ?_ (fun _ => ?_))
      | exact ih0 _ _ _ _ _ _ _ _
      | exact ih1 _ _ _ _ _ _ _ _ _
      | exact LeO.none _
      | refine LeO.ite ?_ ?_
      | refine LeO.bind ?_ (fun _ => ?_)
theorem hayloftref10_Put.mono : ∀ a0 a1 a2 a3 a4 k, LeO (hayloftref10_Put.f k a0 a1 a2 a3 a4) (hayloftref10_Put.f (k + 1) a0 a1 a2 a3 a4) := by
  intro a0 a1 a2 a3 a4 k
  obtain ⟨ih0, ih1⟩ := hayloftref10_Put.mono_l k
  unfold hayloftref10_Put.f
  repeat' first
      | (with_reducible exact ih0 _ _ _ _ _ _ _ _)
      | (with_reducible exact ih1 _ _ _ _ _ _ _ _ _)
      | (with_reducible exact LeO.refl _)
      | (with_reducible exact LeO.none _)
      | (with_reducible refine LeO.ite ?_ ?_)
      | (with_reducible refine LeO.bind ?_ (fun _ => ?_))
      | exact ih0 _ _ _ _ _ _ _ _
      | exact ih1 _ _ _ _ _ _ _ _ _
      | exact LeO.none _
      | refine LeO.ite ?_ ?_
      | refine LeO.bind ?_ (fun _ => ?_)
def hayloftref10_Put.T6 : Bool × List (List Nat × List Nat) := (true, [([], []), ([0], [0]), ([1], [1]), ([2], [2]), ([2], [2]), ([3, 4, 2], [2, 3, 4]), ([5, 2], [2, 5]), ([6, 2], [2, 6]), ([2], [2]), ([8, 2], [2, 8]), ([7, 9, 2, 2], [2, 7, 9]), ([10, 2], [2, 10]), ([2, 11], [2, 11])])
def hayloftref10_Put.B6 : List Nat := [0, 1, 3, 7, 7, 31, 63, 127, 7, 263, 1023, 2047, 4095]
theorem hayloftref10_Put.tab6 : rtab .any (opsOf Try.f34 6) = hayloftref10_Put.T6 := by kernel_rfl
theorem hayloftref10_Put.bits6 : waitsOk hayloftref10_Put.T6.2 hayloftref10_Put.B6 = true := by kernel_rfl
def hayloftref10_Put.T9 : Bool × List (List Nat × List Nat) := (true, [([], []), ([], []), ([0, 1], [0, 1]), ([2], [2]), ([3], [3]), ([], []), ([5], [5]), ([4, 6], [4, 6])])
def hayloftref10_Put.B9 : List Nat := [0, 0, 3, 7, 15, 0, 32, 127]
theorem hayloftref10_Put.tab9 : rtab .any (opsOf Try.f34 9) = hayloftref10_Put.T9 := by kernel_rfl
theorem hayloftref10_Put.bits9 : waitsOk hayloftref10_Put.T9.2 hayloftref10_Put.B9 = true := by kernel_rfl
set_option maxHeartbeats 8000000 in
set_option maxRecDepth 100000 in
theorem hayloftref10_Put.calls (k : Nat) (P0_ : Nat → Prop) (A0 : Option Addr) (c0 : Nat) (l0 : List (S34)) (a1_0 : Int) (a1_1 : Int) (P1_2_ : Nat → Prop) (A1_2 : Option Addr) (c1_2 : Nat) (l1_2 : List (S36)) (a1_3 : Int) (r : List (S34)) (w : World) (hs0 : Kd.V k34 34 w w.heap.size (fun k_ => P0_ k_) (.slice A0 l0.length c0) l0) (hs1_2 : Kd.V k36 36 w w.heap.size (fun k_ => P1_2_ k_) (.slice A1_2 l1_2.length c1_2) l1_2) (h : hayloftref10_Put.f k l0 a1_0 a1_1 l1_2 a1_3 = some r) :
    Calls Try.prog 34 #[.slice A0 l0.length c0, .agg #[.int .u64 a1_0, .int .u32 a1_1, .slice A1_2 l1_2.length c1_2, .int .u64 a1_3]] w fun e w' => ∃ v0_ : Value, e = .returned (v0_) ∧ Kd.N k34 34 w' w.heap.size (fun k_ => ((P0_ k_ ∨ P1_2_ k_) ∨ w.heap.size ≤ k_)) v0_ r ∧ Below w.heap.size w w' := by
  have hu34 := Try.underlying34
  have hu31 := Try.underlying31
  have HO0 := Aside0.mk (show Kd.V k34 34 w w.heap.size (fun k_ => ((P0_ k_ ∨ P1_2_ k_) ∨ w.heap.size ≤ k_)) (.slice A0 l0.length c0) l0 from Kd.V_mono hs0 (fun k_ hk => .inl (.inl hk)))
  have HO1_2 := Aside0.mk (show Kd.V k36 36 w w.heap.size (fun k_ => ((P0_ k_ ∨ P1_2_ k_) ∨ w.heap.size ≤ k_)) (.slice A1_2 l1_2.length c1_2) l1_2 from Kd.V_mono hs1_2 (fun k_ hk => .inl (.inr hk)))
  have HB := Aside0.mk (Below.refl w.heap.size w)
  have H : (hayloftref10_Put.l0 k l0 ([] : List (S34)) false 0 a1_0 a1_1 l1_2 a1_3) = some r := h
  clear h
  have H' := Aside0.mk H
  clear H
  go_enter Try.func34, Try.ntmps34
  go_wp2_with (first | ((with_reducible refine gate_dst (N := 3) rfl ?_); refine box_event ?hg (N := 3) ?hd (cs := #[.int .u64 a1_0, .int .u32 a1_1, .slice A1_2 l1_2.length c1_2, .int .u64 a1_3]) (t := 34) ?hr ?_; (case hd => rfl); (case hg => rfl); (case hr => first | (go_simp; done) | (go_simp; rfl)); intro gb275 hg w3 hbox hb; have n0_ := Aside0.mk (Kd.V_below (Kd.V_elderB (by (with_reducible repeat (first | apply Kd.V_alloc | apply Kd.V_drewN | apply Kd.V_drew)); exact HO0.out) gb275 (Nat.le_of_eq hg.symm)) hb); have n1_ := Aside0.mk (Kd.V_below (Kd.V_elderB (by (with_reducible repeat (first | apply Kd.V_alloc | apply Kd.V_drewN | apply Kd.V_drew)); exact HO1_2.out) gb275 (Nat.le_of_eq hg.symm)) hb); have n2_ := Aside0.mk (below_step (by repeat (first | (with_reducible first | exact HB.out | apply below_alloc | apply pw_below_drewN | apply below_drew1) | exact HB.out)) hb); have n3_ := Aside0.mk (hbox); have n4_ := Aside0.mk ((by rw [hg]; exact (below_size (by repeat (first | (with_reducible first | exact HB.out | apply below_alloc | apply pw_below_drewN | apply below_drew1) | exact HB.out))) : w.heap.size ≤ gb275)); have n5_ := Aside0.mk ((by rw [hg]; exact (below_size (by repeat (first | (with_reducible first | exact HB.out | apply below_alloc | apply pw_below_drewN | apply below_drew1) | exact HB.out))) : w.heap.size ≤ gb275)); clear HO0; clear HO1_2; clear HB; have HO0 := n0_; have HO1_2 := n1_; have HB := n2_; have BK275 := n3_; have GW275 := n4_; have GE275 := n5_; clear n0_ n1_ n2_ n3_ n4_ n5_; clear hb hbox hg))
  go_loopg [5, 6, 7] k (fun kq v5 v6 v7 w' => ∃ (x5_1 : List (S34)) (x6_1 : Bool) (x7_1 : Int), v6 = .bool x6_1 ∧ v7 = .int .i64 x7_1 ∧ Aside0 (hayloftref10_Put.l0 kq l0 x5_1 x6_1 x7_1 a1_0 a1_1 l1_2 a1_3 = some r) ∧ Aside0 (kq ≤ k) ∧ Aside0 (Kd.V k34 34 w' w.heap.size (fun k_ => ((P0_ k_ ∨ P1_2_ k_) ∨ w.heap.size ≤ k_) ∧ some k_ ≠ (v5 : Value).ownBlock ∧ k_ ≠ gb275) (.slice A0 l0.length c0) l0) ∧ Aside0 (Kd.N k34 34 w' w.heap.size (fun k_ => ((P0_ k_ ∨ P1_2_ k_) ∨ w.heap.size ≤ k_) ∧ k_ ≠ gb275) v5 x5_1) ∧ Aside0 (Kd.V k36 36 w' w.heap.size (fun k_ => ((P0_ k_ ∨ P1_2_ k_) ∨ w.heap.size ≤ k_) ∧ some k_ ≠ (v5 : Value).ownBlock ∧ k_ ≠ gb275) (.slice A1_2 l1_2.length c1_2) l1_2) ∧ Aside0 (w'.heap[gb275]? = some (.cells #[.int .u64 a1_0, .int .u32 a1_1, (.slice A1_2 l1_2.length c1_2), .int .u64 a1_3] 34 (0, 0))) ∧ Aside0 (Below w.heap.size w w'))
  case atStart => exact ⟨(([] : List (S34))), (false), (0), (by first | rfl | (simp; done) | (simp [*]; done)), (by first | rfl | (simp; done) | (simp [*]; done)), H', ⟨Nat.le_refl _⟩, ⟨by (with_reducible repeat (first | apply Kd.V_alloc | apply Kd.V_drewN | apply Kd.V_drew)); exact Kd.V_mono HO0.out (fun _ hk => ⟨hk.1, ⟨(by simp [Value.ownBlock]), hk.2⟩⟩)⟩, ⟨by first | exact Kd.S_nil _ _ _ _ _ | exact Kd.N_nil _ _ _ _ _ | exact Kd.V_nil _ _ _ _ _ | exact Kd.Q_nil _ _ _ _ _ | exact Kd.R_nil _ _ _ _ _⟩, ⟨by (with_reducible repeat (first | apply Kd.V_alloc | apply Kd.V_drewN | apply Kd.V_drew)); exact Kd.V_mono HO1_2.out (fun _ hk => ⟨hk.1, ⟨(by simp [Value.ownBlock]), hk.2⟩⟩)⟩, ⟨by (with_reducible repeat (first | refine blk_drewN ?_ _ | refine blk_drew ?_ | refine blk_alloc ?_ _)); exact BK275.out⟩, ⟨by repeat (first | (with_reducible first | exact HB.out | apply below_alloc | apply pw_below_drewN | apply below_drew1 | refine below_set ?_ GE275.out) | exact HB.out)⟩⟩
  case round =>
    clear H'
    try clear c1
    try clear p2
    try clear c3
    obtain ⟨x5_1, x6_1, x7_1, rfl, rfl, HA, HK1, HO_0, HO_5, HO_276002, BK275, HB⟩ := hrel
    cases gk with
    | zero => exact absurd HA.out (by simp [hayloftref10_Put.l0])
    | succ k1 =>
      have H := HA.out
      clear HA
      simp only [hayloftref10_Put.l0] at H
      by_cases c4 : x7_1 < (l0.length : Int)
      · rw [if_pos c4] at H
        have c4b0 : decide (x7_1 < (l0.length : Int)) = true := decide_eq_true c4
        clear c4
        have HC5 := Aside0.mk H
        clear H
        go_upto_region 6 with (fail)
        go_cut [26] (fun v26 wc => ∃ (kq : Nat) (x26_4 : Bool), v26 = .bool x26_4 ∧ Aside0 (hayloftref10_Put.j1 kq l0 x5_1 x6_1 x7_1 x26_4 a1_0 a1_1 l1_2 a1_3 = some r) ∧ Aside0 (kq ≤ k1) ∧ Aside0 (Kd.V k34 34 wc w.heap.size (fun k_ => ((P0_ k_ ∨ P1_2_ k_) ∨ w.heap.size ≤ k_) ∧ some k_ ≠ (u5 : Value).ownBlock ∧ k_ ≠ gb275) (.slice A0 l0.length c0) l0) ∧ Aside0 (Kd.N k34 34 wc w.heap.size (fun k_ => ((P0_ k_ ∨ P1_2_ k_) ∨ w.heap.size ≤ k_) ∧ k_ ≠ gb275) u5 x5_1) ∧ Aside0 (Kd.V k36 36 wc w.heap.size (fun k_ => ((P0_ k_ ∨ P1_2_ k_) ∨ w.heap.size ≤ k_) ∧ some k_ ≠ (u5 : Value).ownBlock ∧ k_ ≠ gb275) (.slice A1_2 l1_2.length c1_2) l1_2) ∧ Aside0 (wc.heap[gb275]? = some (.cells #[.int .u64 a1_0, .int .u32 a1_1, (.slice A1_2 l1_2.length c1_2), .int .u64 a1_3] 34 (0, 0))) ∧ Aside0 (Below w.heap.size w wc))
        case first =>
          have H := HC5.out
          clear HC5
          by_cases c6 : x6_1 = true
          · subst c6
            have H1 : (hayloftref10_Put.j1 k1 l0 x5_1 true x7_1 false a1_0 a1_1 l1_2 a1_3) = some r := by rw [if_pos rfl] at H; exact H
            clear H
            have H := H1
            clear H1
            have H' := Aside0.mk H
            clear H
            try go_wp2
            have n0_ := Aside0.mk (Kd.V_drew HO_0.out)
            have n1_ := Aside0.mk (Kd.N_drew HO_5.out)
            have n2_ := Aside0.mk (Kd.V_drew HO_276002.out)
            have n3_ := Aside0.mk (blk_drew BK275.out)
            have n4_ := Aside0.mk (below_drew1 HB.out)
            clear HO_0
            clear HO_5
            clear HO_276002
            clear BK275
            clear HB
            have HO_0 := n0_
            have HO_5 := n1_
            have HO_276002 := n2_
            have BK275 := n3_
            have HB := n4_
            clear n0_ n1_ n2_ n3_ n4_
            refine start_ (n := 13) (S := fun w' => True) (ds := []) #[false, false, false, false, false, false, false, false, false, false, false, false, false] (by kernel_rfl) rfl rfl trivial (fun hHeld => ?_); refine with_tabW hayloftref10_Put.tab6 hayloftref10_Put.bits6 (fun HT_ HW_ => ?_)
            generalize wr.drew = w7 at HO_0 HO_5 HO_276002 BK275 HB hHeld ⊢
            refine pure_ (i := 0) (N := some 14) (v := ?_) (a' := ?_) #[true, false, false, false, false, false, false, false, false, false, false, false, false] rfl rfl (any_of HT_.out (by kernel_rfl)) (fun _ _ _ h => h) (Or.inl ⟨by rfl, ?_⟩) ?_ ?_
            rotate_left
            · intro w'
              go_simp
              with_reducible rfl
            rotate_left
            · simp only [Act.put, List.setIfInBounds_toArray, List.set_cons_zero, List.set_cons_succ, i64_w, i32_w]
              rfl
            refine pure_ (i := 1) (N := some 15) (v := ?_) (a' := ?_) #[true, true, false, false, false, false, false, false, false, false, false, false, false] rfl rfl (any_of HT_.out (by kernel_rfl)) (fun _ _ _ h => h) (Or.inl ⟨by rfl, ?_⟩) ?_ ?_
            rotate_left
            · intro w'
              go_simp
              with_reducible rfl
            rotate_left
            · simp only [Act.put, List.setIfInBounds_toArray, List.set_cons_zero, List.set_cons_succ, i64_w, i32_w]
              rfl
            refine pure_ (i := 2) (N := some 16) (v := ?_) (a' := ?_) #[true, true, true, false, false, false, false, false, false, false, false, false, false] rfl rfl (any_of HT_.out (by kernel_rfl)) (fun _ _ _ h => h) (Or.inl ⟨by rfl, ?_⟩) ?_ ?_
            rotate_left
            · intro w'
              go_simp
              with_reducible rfl
            rotate_left
            · simp only [Act.put, List.setIfInBounds_toArray, List.set_cons_zero, List.set_cons_succ, i64_w, i32_w]
              rfl
            refine pure_ (i := 3) (N := some 17) (v := undef) (a' := ?_) #[true, true, true, true, false, false, false, false, false, false, false, false, false] rfl rfl (any_of HT_.out (by kernel_rfl)) (fun _ _ _ h => h) (Or.inr ⟨by rfl, rfl⟩) ?_ ?_
            rotate_left
            · simp only [Act.put, List.setIfInBounds_toArray, List.set_cons_zero, List.set_cons_succ, i64_w, i32_w]
              rfl
            refine pure_ (i := 4) (N := some 18) (v := undef) (a' := ?_) #[true, true, true, true, true, false, false, false, false, false, false, false, false] rfl rfl (any_of HT_.out (by kernel_rfl)) (fun _ _ _ h => h) (Or.inr ⟨by rfl, rfl⟩) ?_ ?_
            rotate_left
            · simp only [Act.put, List.setIfInBounds_toArray, List.set_cons_zero, List.set_cons_succ, i64_w, i32_w]
              rfl
            refine pure_ (i := 5) (N := some 19) (v := undef) (a' := ?_) #[true, true, true, true, true, true, false, false, false, false, false, false, false] rfl rfl (any_of HT_.out (by kernel_rfl)) (fun _ _ _ h => h) (Or.inr ⟨by rfl, rfl⟩) ?_ ?_
            rotate_left
            · simp only [Act.put, List.setIfInBounds_toArray, List.set_cons_zero, List.set_cons_succ, i64_w, i32_w]
              rfl
            refine pure_ (i := 6) (N := some 20) (v := undef) (a' := ?_) #[true, true, true, true, true, true, true, false, false, false, false, false, false] rfl rfl (any_of HT_.out (by kernel_rfl)) (fun _ _ _ h => h) (Or.inr ⟨by rfl, rfl⟩) ?_ ?_
            rotate_left
            · simp only [Act.put, List.setIfInBounds_toArray, List.set_cons_zero, List.set_cons_succ, i64_w, i32_w]
              rfl
            refine pure_ (i := 7) (N := some 21) (v := undef) (a' := ?_) #[true, true, true, true, true, true, true, true, false, false, false, false, false] rfl rfl (any_of HT_.out (by kernel_rfl)) (fun _ _ _ h => h) (Or.inr ⟨by rfl, rfl⟩) ?_ ?_
            rotate_left
            · simp only [Act.put, List.setIfInBounds_toArray, List.set_cons_zero, List.set_cons_succ, i64_w, i32_w]
              rfl
            refine pure_ (i := 8) (N := some 22) (v := undef) (a' := ?_) #[true, true, true, true, true, true, true, true, true, false, false, false, false] rfl rfl (any_of HT_.out (by kernel_rfl)) (fun _ _ _ h => h) (Or.inr ⟨by rfl, rfl⟩) ?_ ?_
            rotate_left
            · simp only [Act.put, List.setIfInBounds_toArray, List.set_cons_zero, List.set_cons_succ, i64_w, i32_w]
              rfl
            refine pure_ (i := 9) (N := some 23) (v := undef) (a' := ?_) #[true, true, true, true, true, true, true, true, true, true, false, false, false] rfl rfl (any_of HT_.out (by kernel_rfl)) (fun _ _ _ h => h) (Or.inr ⟨by rfl, rfl⟩) ?_ ?_
            rotate_left
            · simp only [Act.put, List.setIfInBounds_toArray, List.set_cons_zero, List.set_cons_succ, i64_w, i32_w]
              rfl
            refine pure_ (i := 10) (N := some 24) (v := undef) (a' := ?_) #[true, true, true, true, true, true, true, true, true, true, true, false, false] rfl rfl (any_of HT_.out (by kernel_rfl)) (fun _ _ _ h => h) (Or.inr ⟨by rfl, rfl⟩) ?_ ?_
            rotate_left
            · simp only [Act.put, List.setIfInBounds_toArray, List.set_cons_zero, List.set_cons_succ, i64_w, i32_w]
              rfl
            refine pure_ (i := 11) (N := some 25) (v := undef) (a' := ?_) #[true, true, true, true, true, true, true, true, true, true, true, true, false] rfl rfl (any_of HT_.out (by kernel_rfl)) (fun _ _ _ h => h) (Or.inr ⟨by rfl, rfl⟩) ?_ ?_
            rotate_left
            · simp only [Act.put, List.setIfInBounds_toArray, List.set_cons_zero, List.set_cons_succ, i64_w, i32_w]
              rfl
            refine pure_ (i := 12) (N := some 26) (v := ?_) (a' := ?_) #[true, true, true, true, true, true, true, true, true, true, true, true, true] rfl rfl (any_of HT_.out (by kernel_rfl)) (fun _ _ _ h => h) (Or.inl ⟨by rfl, ?_⟩) ?_ ?_
            rotate_left
            · intro w'
              go_simp
              with_reducible rfl
            rotate_left
            · simp only [Act.put, List.setIfInBounds_toArray, List.set_cons_zero, List.set_cons_succ, i64_w, i32_w]
              rfl
            refine done_ (done_of HT_.out (by kernel_rfl)) ?_
            try go_wp2
            go_meet
            case rel => exact ⟨_, (false), (by first | rfl | (simp; done) | (simp [*]; done)), H', ⟨by have := HK1.out; first | omega | exact Nat.le_refl _⟩, ⟨by (with_reducible repeat (first | apply Kd.V_alloc | apply Kd.V_drewN | apply Kd.V_drew)); exact HO_0.out⟩, ⟨by (with_reducible repeat (first | apply Kd.N_alloc | apply Kd.N_drewN | apply Kd.N_drew)); exact HO_5.out⟩, ⟨by (with_reducible repeat (first | apply Kd.V_alloc | apply Kd.V_drewN | apply Kd.V_drew)); exact HO_276002.out⟩, ⟨by (with_reducible repeat (first | refine blk_drewN ?_ _ | refine blk_drew ?_ | refine blk_alloc ?_ _)); exact BK275.out⟩, ⟨by repeat (first | (with_reducible first | exact HB.out | apply below_alloc | apply pw_below_drewN | apply below_drew1 | refine below_set ?_ GE275.out) | exact HB.out)⟩⟩
          · replace c6 := Bool.eq_false_iff.mpr c6
            subst c6
            have H1 : (if 0 ≤ x7_1 then ((hayloftref10_Less.f ((rd_T34 l0 x7_1).f0.f0) ((rd_T34 l0 x7_1).f0.f1) a1_0 a1_1).bind fun t280 => (hayloftref10_Put.j1 k1 l0 x5_1 false x7_1 (!t280) a1_0 a1_1 l1_2 a1_3)) else (none)) = some r := by rw [if_neg (show ¬ (false = true) by decide)] at H; exact H
            clear H
            have H := H1
            clear H1
            by_cases c8 : 0 ≤ x7_1
            · rw [if_pos c8] at H
              have c8b0 : decide (0 ≤ x7_1) = true := decide_eq_true c8
              clear c8
              (first | rw [c8b0] | (simp only [i64_w, i32_w]; rw [c8b0]) | skip)
              replace H := Option.bind_eq_some_iff.mp H
              obtain ⟨t280, A90, H⟩ := H
              replace H : (hayloftref10_Put.j1 k1 l0 x5_1 false x7_1 (!t280) a1_0 a1_1 l1_2 a1_3) = some r := H
              have A9 := Aside0.mk A90
              clear A90
              have H' := Aside0.mk H
              clear H
              try go_wp2
              have n0_ := Aside0.mk (Kd.V_drew HO_0.out)
              have n1_ := Aside0.mk (Kd.N_drew HO_5.out)
              have n2_ := Aside0.mk (Kd.V_drew HO_276002.out)
              have n3_ := Aside0.mk (blk_drew BK275.out)
              have n4_ := Aside0.mk (below_drew1 HB.out)
              clear HO_0
              clear HO_5
              clear HO_276002
              clear BK275
              clear HB
              have HO_0 := n0_
              have HO_5 := n1_
              have HO_276002 := n2_
              have BK275 := n3_
              have HB := n4_
              clear n0_ n1_ n2_ n3_ n4_
              have p279 : 0 ≤ (x7_1 : Int) := of_decide_eq_true (by first | (with_reducible assumption) | assumption)
              have q279 : x7_1 < (l0.length : Int) := of_decide_eq_true (by first | (with_reducible assumption) | assumption)
              obtain ⟨ad279, A279_2, c279_2, e279, hx279_0, hx279_1, hx279_2, hx279_3, hl279_2, hi279_2⟩ := at_T34 (Kd.V_reads' HO_0.out).2.2 x7_1 p279 q279
              cases e279
              obtain ⟨ce279, hce279, hMe279, hcc279⟩ := Kd.V_get HO_0.out z34 x7_1 p279 (by first | exact q279 | exact of_decide_eq_true (by first | (with_reducible assumption) | assumption) | (have e_ := (Kd.V_reads' HO_0.out).1; omega))
              obtain ⟨ua279_2, uc279_2, rfl, ul279_2, ge279_2⟩ := k34_openF hMe279
              have hv279_2 := hcc279 2 _ rfl
              rw [add_field _ _ 2 (by omega)] at hv279_2
              replace hv279_2 := Option.some.inj (hv279_2.symm.trans hx279_2)
              injection hv279_2 with hva_ hvn_ hvc_
              rw [hva_] at ge279_2
              rw [hvc_] at ul279_2
              have HL279_2 := Aside0.mk (show Kd.V k36 36 _ w.heap.size _ _ ((rd_T34 l0 x7_1).f1) from Kd.V_mk ul279_2 ge279_2)
              clear hva_ hvn_ hvc_ ge279_2 ul279_2
              clear hcc279 hce279
              have HR279_2 := Aside0.mk hi279_2
              have HC279_2 := Aside0.mk hl279_2
              clear hi279_2 hl279_2
              replace p279 := eq_true p279
              replace q279 := eq_true q279
              refine start_ (n := 13) (S := fun w' => w'.cell? ⟨gb275, 0, none⟩ = some (.int .u64 a1_0) ∧ w'.cell? ⟨gb275, 1, none⟩ = some (.int .u32 a1_1) ∧ w'.cell? ⟨gb275, 2, none⟩ = some (.slice A1_2 l1_2.length c1_2) ∧ w'.cell? ⟨gb275, 3, none⟩ = some (.int .u64 a1_3) ∧ w'.cell? (ad279.add ((x7_1).toNat * 4)) = some (.int .u64 ((rd_T34 l0 x7_1).f0.f0)) ∧ w'.cell? ⟨(ad279.add ((x7_1).toNat * 4)).block, (ad279.add ((x7_1).toNat * 4)).off + 1, none⟩ = some (.int .u32 ((rd_T34 l0 x7_1).f0.f1)) ∧ w'.cell? ⟨(ad279.add ((x7_1).toNat * 4)).block, (ad279.add ((x7_1).toNat * 4)).off + 2, none⟩ = some (.slice A279_2 ((rd_T34 l0 x7_1).f1).length c279_2) ∧ w'.cell? ⟨(ad279.add ((x7_1).toNat * 4)).block, (ad279.add ((x7_1).toNat * 4)).off + 3, none⟩ = some (.int .u64 ((rd_T34 l0 x7_1).f2))) (ds := []) #[false, false, false, false, false, false, false, false, false, false, false, false, false] (by kernel_rfl) rfl rfl ⟨(blk_cell BK275.out 0).trans rfl, (blk_cell BK275.out 1).trans rfl, (blk_cell BK275.out 2).trans rfl, (blk_cell BK275.out 3).trans rfl, hx279_0, hx279_1, hx279_2, hx279_3⟩ (fun hHeld => ?_); refine with_tabW hayloftref10_Put.tab6 hayloftref10_Put.bits6 (fun HT_ HW_ => ?_)
              generalize wr.drew = w10 at HO_0 HO_5 HO_276002 BK275 HB HL279_2 HR279_2 hx279_0 hx279_1 hx279_2 hx279_3 hHeld ⊢
              refine pure_ (i := 0) (N := some 14) (v := ?_) (a' := ?_) #[true, false, false, false, false, false, false, false, false, false, false, false, false] rfl rfl (any_of HT_.out (by kernel_rfl)) (fun _ _ _ h => h) (Or.inl ⟨by rfl, ?_⟩) ?_ ?_
              rotate_left
              · intro w'
                go_simp
                with_reducible rfl
              rotate_left
              · simp only [Act.put, List.setIfInBounds_toArray, List.set_cons_zero, List.set_cons_succ, i64_w, i32_w]
                rfl
              refine pure_ (i := 1) (N := some 15) (v := ?_) (a' := ?_) #[true, true, false, false, false, false, false, false, false, false, false, false, false] rfl rfl (any_of HT_.out (by kernel_rfl)) (fun _ _ _ h => h) (Or.inl ⟨by rfl, ?_⟩) ?_ ?_
              rotate_left
              · intro w'
                go_simp
                with_reducible rfl
              rotate_left
              · simp only [Act.put, List.setIfInBounds_toArray, List.set_cons_zero, List.set_cons_succ, i64_w, i32_w]
                rfl
              refine pure_ (i := 2) (N := some 16) (v := ?_) (a' := ?_) #[true, true, true, false, false, false, false, false, false, false, false, false, false] rfl rfl (any_of HT_.out (by kernel_rfl)) (fun _ _ _ h => h) (Or.inl ⟨by rfl, ?_⟩) ?_ ?_
              rotate_left
              · intro w'
                go_simp
                with_reducible rfl
              rotate_left
              · simp only [Act.put, List.setIfInBounds_toArray, List.set_cons_zero, List.set_cons_succ, i64_w, i32_w]
                rfl
              refine pure_ (i := 3) (N := some 17) (v := ?_) (a' := ?_) #[true, true, true, true, false, false, false, false, false, false, false, false, false] rfl rfl (any_of HT_.out (by kernel_rfl)) (fun _ _ _ h => h) (Or.inl ⟨by rfl, ?_⟩) ?_ ?_
              rotate_left
              · intro w'
                go_simp
                with_reducible rfl
              rotate_left
              · simp only [Act.put, List.setIfInBounds_toArray, List.set_cons_zero, List.set_cons_succ, i64_w, i32_w]
                rfl
              refine pure_ (i := 4) (N := some 18) (v := ?_) (a' := ?_) #[true, true, true, true, true, false, false, false, false, false, false, false, false] rfl rfl (any_of HT_.out (by kernel_rfl)) (fun _ _ _ h => h) (Or.inl ⟨by rfl, ?_⟩) ?_ ?_
              rotate_left
              · intro w'
                go_simp
                with_reducible rfl
              rotate_left
              · simp only [Act.put, List.setIfInBounds_toArray, List.set_cons_zero, List.set_cons_succ, i64_w, i32_w]
                rfl
              refine pure_ (i := 5) (N := some 19) (v := ?_) (a' := ?_) #[true, true, true, true, true, true, false, false, false, false, false, false, false] rfl rfl (any_of HT_.out (by kernel_rfl)) (fun _ _ _ h => h) (Or.inl ⟨by rfl, ?_⟩) ?_ ?_
              rotate_left
              · intro w'
                go_simp
                with_reducible rfl
              rotate_left
              · simp only [Act.put, List.setIfInBounds_toArray, List.set_cons_zero, List.set_cons_succ, i64_w, i32_w]
                rfl
              refine pure_ (i := 6) (N := some 20) (v := ?_) (a' := ?_) #[true, true, true, true, true, true, true, false, false, false, false, false, false] rfl rfl (any_of HT_.out (by kernel_rfl)) (fun _ _ _ h => h) (Or.inl ⟨by rfl, ?_⟩) ?_ ?_
              rotate_left
              · intro w'
                go_simp
                with_reducible rfl
              rotate_left
              · simp only [Act.put, List.setIfInBounds_toArray, List.set_cons_zero, List.set_cons_succ, i64_w, i32_w]
                rfl
              refine pure_ (i := 8) (N := some 22) (v := ?_) (a' := ?_) #[true, true, true, true, true, true, true, false, true, false, false, false, false] rfl rfl (any_of HT_.out (by kernel_rfl)) (fun _ _ _ h => h) (Or.inl ⟨by rfl, ?_⟩) ?_ ?_
              rotate_left
              · intro w'
                go_simp
                with_reducible rfl
              rotate_left
              · simp only [Act.put, List.setIfInBounds_toArray, List.set_cons_zero, List.set_cons_succ, i64_w, i32_w]
                rfl
              refine take_ (i := 7) (N := some 21) (v := ?_) (a' := ?_) #[true, true, true, true, true, true, true, true, true, false, false, false, false] rfl rfl (take_ofW HT_.out HW_.out (by kernel_rfl)) (fun _ _ _ h => h) (Or.inl ⟨by rfl, ?_⟩) hHeld ?_ ?_
              rotate_left
              · rintro w' ⟨s0, s1, s2, s3, s4, s5, s6, s7⟩
                go_simp
                with_reducible rfl
              rotate_left
              · simp only [Act.put, List.setIfInBounds_toArray, List.set_cons_zero, List.set_cons_succ, i64_w, i32_w]
                rfl
              refine take_ (i := 9) (N := some 23) (v := ?_) (a' := ?_) #[true, true, true, true, true, true, true, true, true, true, false, false, false] rfl rfl (take_ofW HT_.out HW_.out (by kernel_rfl)) (fun _ _ _ h => h) (Or.inl ⟨by rfl, ?_⟩) hHeld ?_ ?_
              rotate_left
              · rintro w' ⟨s0, s1, s2, s3, s4, s5, s6, s7⟩
                go_simp
                with_reducible rfl
              rotate_left
              · simp only [Act.put, List.setIfInBounds_toArray, List.set_cons_zero, List.set_cons_succ, i64_w, i32_w]
                rfl
              refine one_ (i := 10) (N := some 24) #[true, true, true, true, true, true, true, true, true, true, true, false, false] rfl rfl (one_of HT_.out (by kernel_rfl)) (by decide) (fun K hK => ?_)
              refine goes_ Try.func43 (by kernel_rfl) rfl #[.agg #[.int .u64 ((rd_T34 l0 x7_1).f0.f0), .int .u32 ((rd_T34 l0 x7_1).f0.f1)], .agg #[.int .u64 a1_0, .int .u32 a1_1]] (by rfl) rfl rfl (by (try simp only [List.map_toArray, List.map_cons, List.map_nil]); first | done | rfl | (simp only [List.length_drop, List.length_take]; rfl)) ?_
              with_reducible refine (hayloftref10_Less.calls ((rd_T34 l0 x7_1).f0.f0) ((rd_T34 l0 x7_1).f0.f1) a1_0 a1_1 t280 _ A9.out).mono ?_
              rintro e w11 ⟨rfl, hb⟩
              have HS4_ := (hb.cell (World.block_lt_of_cell? _ _ (hHeld.2.2.2.2.1))).trans (hHeld.2.2.2.2.1)
              have HS5_ := (hb.cell (World.block_lt_of_cell? _ _ (hHeld.2.2.2.2.2.1))).trans (hHeld.2.2.2.2.2.1)
              have HS6_ := (hb.cell (World.block_lt_of_cell? _ _ (hHeld.2.2.2.2.2.2.1))).trans (hHeld.2.2.2.2.2.2.1)
              have HS7_ := (hb.cell (World.block_lt_of_cell? _ _ (hHeld.2.2.2.2.2.2.2))).trans (hHeld.2.2.2.2.2.2.2)
              refine ⟨_, rfl, ?_⟩
              have n0_ := Aside0.mk (Kd.V_below (by (with_reducible repeat (first | apply Kd.V_alloc | apply Kd.V_drewN | apply Kd.V_drew)); exact HO_0.out) hb)
              have n1_ := Aside0.mk (Kd.N_below (by (with_reducible repeat (first | apply Kd.N_alloc | apply Kd.N_drewN | apply Kd.N_drew)); exact HO_5.out) hb)
              have n2_ := Aside0.mk (Kd.V_below (by (with_reducible repeat (first | apply Kd.V_alloc | apply Kd.V_drewN | apply Kd.V_drew)); exact HO_276002.out) hb)
              have n3_ := Aside0.mk (Kd.V_below (by (with_reducible repeat (first | apply Kd.V_alloc | apply Kd.V_drewN | apply Kd.V_drew)); exact HL279_2.out) hb)
              have n4_ := Aside0.mk (blk_below (g := gb275) (o := .cells #[.int .u64 a1_0, .int .u32 a1_1, .slice A1_2 l1_2.length c1_2, .int .u64 a1_3] 34 (0, 0)) (by (with_reducible repeat (first | refine blk_drewN ?_ _ | refine blk_drew ?_ | refine blk_alloc ?_ _)); exact BK275.out) hb)
              have n5_ := Aside0.mk (Kd.C_below (by repeat (first | (with_reducible exact HR279_2.out) | (with_reducible refine Kd.C_alloc ?_ _) | (with_reducible refine Kd.C_drewN ?_ _) | (with_reducible refine Kd.C_drew ?_) | exact HR279_2.out)) hb)
              have n6_ := Aside0.mk (below_step (by repeat (first | (with_reducible first | exact HB.out | apply below_alloc | apply pw_below_drewN | apply below_drew1 | refine below_set ?_ GE275.out) | exact HB.out)) hb)
              clear HO_0
              clear HO_5
              clear HO_276002
              clear HL279_2
              clear BK275
              clear HR279_2
              clear HB
              have HO_0 := n0_
              have HO_5 := n1_
              have HO_276002 := n2_
              have HL279_2 := n3_
              have BK275 := n4_
              have HR279_2 := n5_
              have HB := n6_
              clear n0_ n1_ n2_ n3_ n4_ n5_ n6_
              (try clear hb)
              (try clear hb2)
              (try clear hk)
              (try clear hi)
              refine hK.out _ _ ⟨(blk_cell BK275.out 0).trans rfl, (blk_cell BK275.out 1).trans rfl, (blk_cell BK275.out 2).trans rfl, (blk_cell BK275.out 3).trans rfl, HS4_, HS5_, HS6_, HS7_⟩ (fun hHeld => ?_)
              clear hK K
              refine norm_ (a' := ?_) ?_ ?_
              rotate_left
              · show Act.put _ (some 24) _ = _
                simp only [Act.put, List.setIfInBounds_toArray, List.set_cons_zero, List.set_cons_succ, i64_w, i32_w]
                rfl
              refine pure_ (i := 11) (N := some 25) (v := ?_) (a' := ?_) #[true, true, true, true, true, true, true, true, true, true, true, true, false] rfl rfl (any_of HT_.out (by kernel_rfl)) (fun _ _ _ h => h) (Or.inl ⟨by rfl, ?_⟩) ?_ ?_
              rotate_left
              · intro w'
                go_simp
                with_reducible rfl
              rotate_left
              · simp only [Act.put, List.setIfInBounds_toArray, List.set_cons_zero, List.set_cons_succ, i64_w, i32_w]
                rfl
              refine pure_ (i := 12) (N := some 26) (v := ?_) (a' := ?_) #[true, true, true, true, true, true, true, true, true, true, true, true, true] rfl rfl (any_of HT_.out (by kernel_rfl)) (fun _ _ _ h => h) (Or.inl ⟨by rfl, ?_⟩) ?_ ?_
              rotate_left
              · intro w'
                go_simp
                with_reducible rfl
              rotate_left
              · simp only [Act.put, List.setIfInBounds_toArray, List.set_cons_zero, List.set_cons_succ, i64_w, i32_w]
                rfl
              refine done_ (done_of HT_.out (by kernel_rfl)) ?_
              try go_wp2
              go_meet
              case rel => exact ⟨_, (!t280), (by first | rfl | (simp; done) | (simp [*]; done)), H', ⟨by have := HK1.out; first | omega | exact Nat.le_refl _⟩, ⟨by (with_reducible repeat (first | apply Kd.V_alloc | apply Kd.V_drewN | apply Kd.V_drew)); exact HO_0.out⟩, ⟨by (with_reducible repeat (first | apply Kd.N_alloc | apply Kd.N_drewN | apply Kd.N_drew)); exact HO_5.out⟩, ⟨by (with_reducible repeat (first | apply Kd.V_alloc | apply Kd.V_drewN | apply Kd.V_drew)); exact HO_276002.out⟩, ⟨by (with_reducible repeat (first | refine blk_drewN ?_ _ | refine blk_drew ?_ | refine blk_alloc ?_ _)); exact BK275.out⟩, ⟨by repeat (first | (with_reducible first | exact HB.out | apply below_alloc | apply pw_below_drewN | apply below_drew1 | refine below_set ?_ GE275.out) | exact HB.out)⟩⟩
            · rw [if_neg c8] at H
              exact absurd H (by simp)
        case rest =>
          clear HC5
          try clear c1
          try clear c2
          try clear p2
          try clear q2
          try clear hx2
          try clear c3
          try clear c4
          try clear c4b0
          try clear c6
          try clear c8
          try clear c8b0
          try clear hx279_0
          try clear hx279_1
          try clear hx279_2
          try clear hx279_3
          try clear p2
          try clear p279
          try clear q279
          obtain ⟨kq, x26_4, rfl, HA, HJ4, HO_0, HO_5, HO_276002, BK275, HB⟩ := hcut
          cases kq with
          | zero => exact absurd HA.out (by simp [hayloftref10_Put.j1])
          | succ kj4 =>
            have H := HA.out
            clear HA
            simp only [hayloftref10_Put.j1] at H
            by_cases c12 : x26_4 = true
            · subst c12
              have H1 : (if x5_1.length < 2932031007402 then ((some (x5_1 ++ [(⟨(⟨a1_0, a1_1⟩ : S31), l1_2, a1_3⟩ : S34)] : List (S34))).bind fun y281 => (if 0 ≤ x7_1 then (if x7_1 < (l0.length : Int) then (if (!(((rd_T34 l0 x7_1).f0.f0) == a1_0) || (!(((rd_T34 l0 x7_1).f0.f1) == a1_1))) = true then (if y281.length < 2932031007402 then (hayloftref10_Put.l0 kj4 l0 (y281 ++ [(⟨(⟨(rd_T34 l0 x7_1).f0.f0, (rd_T34 l0 x7_1).f0.f1⟩ : S31), (rd_T34 l0 x7_1).f1, (rd_T34 l0 x7_1).f2⟩ : S34)]) true (wrap64 (x7_1 + 1)) a1_0 a1_1 l1_2 a1_3) else (none)) else (hayloftref10_Put.l0 kj4 l0 y281 true (wrap64 (x7_1 + 1)) a1_0 a1_1 l1_2 a1_3)) else (none)) else (none))) else (none)) = some r := by rw [if_pos rfl] at H; exact H
              clear H
              have H := H1
              clear H1
              by_cases c13 : x5_1.length < 2932031007402
              · rw [if_pos c13] at H
                have LMc13 := Aside0.mk c13
                clear c13
                obtain ⟨y281, hy281⟩ : ∃ y_ : List (S34), y_ = (x5_1 ++ [(⟨(⟨a1_0, a1_1⟩ : S31), l1_2, a1_3⟩ : S34)]) := ⟨_, rfl⟩
                replace H : (if 0 ≤ x7_1 then (if x7_1 < (l0.length : Int) then (if (!(((rd_T34 l0 x7_1).f0.f0) == a1_0) || (!(((rd_T34 l0 x7_1).f0.f1) == a1_1))) = true then (if y281.length < 2932031007402 then (hayloftref10_Put.l0 kj4 l0 (y281 ++ [(⟨(⟨(rd_T34 l0 x7_1).f0.f0, (rd_T34 l0 x7_1).f0.f1⟩ : S31), (rd_T34 l0 x7_1).f1, (rd_T34 l0 x7_1).f2⟩ : S34)]) true (wrap64 (x7_1 + 1)) a1_0 a1_1 l1_2 a1_3) else (none)) else (hayloftref10_Put.l0 kj4 l0 y281 true (wrap64 (x7_1 + 1)) a1_0 a1_1 l1_2 a1_3)) else (none)) else (none)) = some r := by first | (rw [hy281]; with_reducible exact H) | (have H2_ := (Option.bind_some _ _).symm.trans H; rw [hy281]; with_reducible exact H2_) | (have H2_ := (Option.bind_some _ _).symm.trans H; with_reducible exact H2_) | with_reducible exact H | (rw [hy281]; exact H) | exact H
                have Ny281 := Aside0.mk hy281
                clear hy281
                by_cases c14 : 0 ≤ x7_1
                · rw [if_pos c14] at H
                  have c14b0 : decide (0 ≤ x7_1) = true := decide_eq_true c14
                  clear c14
                  by_cases c15 : x7_1 < (l0.length : Int)
                  · rw [if_pos c15] at H
                    have c15b0 : decide (x7_1 < (l0.length : Int)) = true := decide_eq_true c15
                    clear c15
                    by_cases c16 : (!(((rd_T34 l0 x7_1).f0.f0) == a1_0) || (!(((rd_T34 l0 x7_1).f0.f1) == a1_1))) = true
                    · rw [if_pos c16] at H
                      have c16b0 : (!(((rd_T34 l0 x7_1).f0.f0) == a1_0) || (!(((rd_T34 l0 x7_1).f0.f1) == a1_1))) = true := c16
                      clear c16
                      by_cases c17 : y281.length < 2932031007402
                      · rw [if_pos c17] at H
                        have LMc17 := Aside0.mk c17
                        clear c17
                        obtain ⟨y286, hy286⟩ : ∃ y_ : List (S34), y_ = (y281 ++ [(⟨(⟨(rd_T34 l0 x7_1).f0.f0, (rd_T34 l0 x7_1).f0.f1⟩ : S31), (rd_T34 l0 x7_1).f1, (rd_T34 l0 x7_1).f2⟩ : S34)]) := ⟨_, rfl⟩
                        replace H : (hayloftref10_Put.l0 kj4 l0 y286 true (wrap64 (x7_1 + 1)) a1_0 a1_1 l1_2 a1_3) = some r := by first | (rw [hy286]; with_reducible exact H) | (have H2_ := (Option.bind_some _ _).symm.trans H; rw [hy286]; with_reducible exact H2_) | (have H2_ := (Option.bind_some _ _).symm.trans H; with_reducible exact H2_) | with_reducible exact H | (rw [hy286]; exact H) | exact H
                        have Ny286 := Aside0.mk hy286
                        clear hy286
                        have H' := Aside0.mk H
                        clear H
                        have hcz18_0 : wc.cell? ⟨gb275, 0, none⟩ = some (.int .u64 a1_0) := (blk_cell BK275.out 0).trans rfl
                        have hcz18_1 : wc.cell? ⟨gb275, 1, none⟩ = some (.int .u32 a1_1) := (blk_cell BK275.out 1).trans rfl
                        have hcz18_2 : wc.cell? ⟨gb275, 2, none⟩ = some (.slice A1_2 l1_2.length c1_2) := (blk_cell BK275.out 2).trans rfl
                        have hcz18_3 : wc.cell? ⟨gb275, 3, none⟩ = some (.int .u64 a1_3) := (blk_cell BK275.out 3).trans rfl
                        have hfz18_0 := blk_frozen BK275.out 0
                        have hfz18_1 := blk_frozen BK275.out 1
                        have hfz18_2 := blk_frozen BK275.out 2
                        have hfz18_3 := blk_frozen BK275.out 3
                        try go_wp2_with (first | ((with_reducible refine gate_builtin (b := .append) (xs := #[.tmp 27, .tmp 29]) rfl ?_); at_builtin; refine Kd.N_append k34 (w0 := w) w.heap.size rfl (.tmp 27) (.tmp 29) 22 34 (.agg #[(.int .u64 0), (.int .u32 0), (.slice none 0 0), (.int .u64 0)]) 48 rfl Try.underlying22 info34 rfl (by decide) (by omega) u5 x5_1 (⟨(⟨a1_0, a1_1⟩ : S31), l1_2, a1_3⟩ : S34) [.int .u64 a1_0, .int .u32 a1_1, .slice A1_2 l1_2.length c1_2, .int .u64 a1_3] (fun k_ => ((P0_ k_ ∨ P1_2_ k_) ∨ w.heap.size ≤ k_) ∧ k_ ≠ gb275) (fun k_ => ((fun k_ => ((P0_ k_ ∨ P1_2_ k_) ∨ w.heap.size ≤ k_) ∧ k_ ≠ gb275)) k_ ∧ some k_ ≠ (u5 : Value).ownBlock) rfl rfl ?aP (fun _ hk => hk) ?aF ?aO ?aB ?aS ?aL ?_; (case aP => exact (k34_mkF _ _ (⟨(⟨a1_0, a1_1⟩ : S31), l1_2, a1_3⟩ : S34) (Kd.V_reads' (Kd.V_mono (ok' := (fun k_ => ((fun k_ => ((P0_ k_ ∨ P1_2_ k_) ∨ w.heap.size ≤ k_) ∧ k_ ≠ gb275)) k_ ∧ some k_ ≠ (u5 : Value).ownBlock)) (HO_276002.out) (fun k_ hk => ⟨⟨hk.1, hk.2.2⟩, hk.2.1⟩))).2.1 (Kd.V_F (Kd.V_mono (ok' := (fun k_ => ((fun k_ => ((P0_ k_ ∨ P1_2_ k_) ∨ w.heap.size ≤ k_) ∧ k_ ≠ gb275)) k_ ∧ some k_ ≠ (u5 : Value).ownBlock)) (HO_276002.out) (fun k_ hk => ⟨⟨hk.1, hk.2.2⟩, hk.2.1⟩))))); (case aB => exact (by repeat (first | (with_reducible first | exact HB.out | apply below_alloc | apply pw_below_drewN | apply below_drew1 | refine below_set ?_ GE275.out) | exact HB.out))); (case aF => exact (fun k_ hk => ⟨(.inr (Nat.le_trans (below_size (by repeat (first | (with_reducible first | exact HB.out | apply below_alloc | apply pw_below_drewN | apply below_drew1 | refine below_set ?_ GE275.out) | exact HB.out))) hk)), Kd.freshB (g := gb275) (o := .cells #[.int .u64 a1_0, .int .u32 a1_1, .slice A1_2 l1_2.length c1_2, .int .u64 a1_3] 34 (0, 0)) (by (with_reducible repeat (first | refine blk_drewN ?_ _ | refine blk_drew ?_ | refine blk_alloc ?_ _)); exact BK275.out) k_ hk⟩)); (case aO => exact (by (with_reducible repeat (first | apply Kd.N_alloc | apply Kd.N_drewN | apply Kd.N_drew)); exact HO_5.out)); (case aS => exact (below_size (by repeat (first | (with_reducible first | exact HB.out | apply below_alloc | apply pw_below_drewN | apply below_drew1 | refine below_set ?_ GE275.out) | exact HB.out)))); (case aL => have := LMc13.out; omega); intro v282 w19 ho hb hg hat; rw [← Ny281.out] at ho; have n0_ := Aside0.mk (Kd.V_afterv (ok := (fun k_ => ((P0_ k_ ∨ P1_2_ k_) ∨ w.heap.size ≤ k_) ∧ k_ ≠ gb275)) (by (with_reducible repeat (first | apply Kd.V_alloc | apply Kd.V_drewN | apply Kd.V_drew)); exact Kd.V_mono HO_0.out (fun _ hk => ⟨⟨hk.1, hk.2.2⟩, hk.2.1⟩)) hg hat); have n1_ := Aside0.mk (Kd.V_afterv (ok := (fun k_ => ((P0_ k_ ∨ P1_2_ k_) ∨ w.heap.size ≤ k_) ∧ k_ ≠ gb275)) (by (with_reducible repeat (first | apply Kd.V_alloc | apply Kd.V_drewN | apply Kd.V_drew)); exact Kd.V_mono HO_276002.out (fun _ hk => ⟨⟨hk.1, hk.2.2⟩, hk.2.1⟩)) hg hat); have n2_ := Aside0.mk (blk_grown (g := gb275) (o := .cells #[.int .u64 a1_0, .int .u32 a1_1, .slice A1_2 l1_2.length c1_2, .int .u64 a1_3] 34 (0, 0)) (by (with_reducible repeat (first | refine blk_drewN ?_ _ | refine blk_drew ?_ | refine blk_alloc ?_ _)); exact BK275.out) hg (Kd.N_away HO_5.out (fun _ hk => hk.2))); have n3_ := Aside0.mk (hb); have n4_ := Aside0.mk (ho); clear HO_0; clear HO_276002; clear BK275; clear HB; clear HO_5; have HO_0 := n0_; have HO_276002 := n1_; have BK275 := n2_; have HB := n3_; have HO283 := n4_; clear n0_ n1_ n2_ n3_ n4_; clear ho hb hg hat))
                        have n0_ := Aside0.mk (Kd.V_drew HO_0.out)
                        have n1_ := Aside0.mk (Kd.V_drew HO_276002.out)
                        have n2_ := Aside0.mk (Kd.N_drew HO283.out)
                        have n3_ := Aside0.mk (blk_drew BK275.out)
                        have n4_ := Aside0.mk (below_drew1 HB.out)
                        clear HO_0
                        clear HO_276002
                        clear HO283
                        clear BK275
                        clear HB
                        have HO_0 := n0_
                        have HO_276002 := n1_
                        have HO283 := n2_
                        have BK275 := n3_
                        have HB := n4_
                        clear n0_ n1_ n2_ n3_ n4_
                        have p284 : 0 ≤ (x7_1 : Int) := of_decide_eq_true (by first | (with_reducible assumption) | assumption)
                        have q284 : x7_1 < (l0.length : Int) := of_decide_eq_true (by first | (with_reducible assumption) | assumption)
                        obtain ⟨ad284, A284_2, c284_2, e284, hx284_0, hx284_1, hx284_2, hx284_3, hl284_2, hi284_2⟩ := at_T34 (Kd.V_reads' HO_0.out).2.2 x7_1 p284 q284
                        cases e284
                        obtain ⟨ce284, hce284, hMe284, hcc284⟩ := Kd.V_get HO_0.out z34 x7_1 p284 (by first | exact q284 | exact of_decide_eq_true (by first | (with_reducible assumption) | assumption) | (have e_ := (Kd.V_reads' HO_0.out).1; omega))
                        obtain ⟨ua284_2, uc284_2, rfl, ul284_2, ge284_2⟩ := k34_openF hMe284
                        have hv284_2 := hcc284 2 _ rfl
                        rw [add_field _ _ 2 (by omega)] at hv284_2
                        replace hv284_2 := Option.some.inj (hv284_2.symm.trans hx284_2)
                        injection hv284_2 with hva_ hvn_ hvc_
                        rw [hva_] at ge284_2
                        rw [hvc_] at ul284_2
                        have HL284_2 := Aside0.mk (show Kd.V k36 36 _ w.heap.size _ _ ((rd_T34 l0 x7_1).f1) from Kd.V_mk ul284_2 ge284_2)
                        clear hva_ hvn_ hvc_ ge284_2 ul284_2
                        clear hcc284 hce284
                        have HR284_2 := Aside0.mk hi284_2
                        have HC284_2 := Aside0.mk hl284_2
                        clear hi284_2 hl284_2
                        replace p284 := eq_true p284
                        replace q284 := eq_true q284
                        refine start_ (n := 8) (S := fun w' => w'.cell? ⟨gb275, 0, none⟩ = some (.int .u64 a1_0) ∧ w'.cell? ⟨gb275, 1, none⟩ = some (.int .u32 a1_1) ∧ w'.cell? ⟨gb275, 2, none⟩ = some (.slice A1_2 l1_2.length c1_2) ∧ w'.cell? ⟨gb275, 3, none⟩ = some (.int .u64 a1_3) ∧ w'.cell? (ad284.add ((x7_1).toNat * 4)) = some (.int .u64 ((rd_T34 l0 x7_1).f0.f0)) ∧ w'.cell? ⟨(ad284.add ((x7_1).toNat * 4)).block, (ad284.add ((x7_1).toNat * 4)).off + 1, none⟩ = some (.int .u32 ((rd_T34 l0 x7_1).f0.f1)) ∧ w'.cell? ⟨(ad284.add ((x7_1).toNat * 4)).block, (ad284.add ((x7_1).toNat * 4)).off + 2, none⟩ = some (.slice A284_2 ((rd_T34 l0 x7_1).f1).length c284_2) ∧ w'.cell? ⟨(ad284.add ((x7_1).toNat * 4)).block, (ad284.add ((x7_1).toNat * 4)).off + 3, none⟩ = some (.int .u64 ((rd_T34 l0 x7_1).f2))) (ds := []) #[false, false, false, false, false, false, false, false] (by kernel_rfl) rfl rfl ⟨(blk_cell BK275.out 0).trans rfl, (blk_cell BK275.out 1).trans rfl, (blk_cell BK275.out 2).trans rfl, (blk_cell BK275.out 3).trans rfl, hx284_0, hx284_1, hx284_2, hx284_3⟩ (fun hHeld => ?_); refine with_tabW hayloftref10_Put.tab9 hayloftref10_Put.bits9 (fun HT_ HW_ => ?_)
                        generalize w19.drew = w20 at HO_0 HO_276002 HO283 BK275 HB HL284_2 HR284_2 hx284_0 hx284_1 hx284_2 hx284_3 hHeld ⊢
                        refine pure_ (i := 0) (N := some 31) (v := ?_) (a' := ?_) #[true, false, false, false, false, false, false, false] rfl rfl (any_of HT_.out (by kernel_rfl)) (fun _ _ _ h => h) (Or.inl ⟨by rfl, ?_⟩) ?_ ?_
                        rotate_left
                        · intro w'
                          go_simp
                          with_reducible rfl
                        rotate_left
                        · simp only [Act.put, List.setIfInBounds_toArray, List.set_cons_zero, List.set_cons_succ, i64_w, i32_w]
                          rfl
                        refine pure_ (i := 1) (N := some 32) (v := ?_) (a' := ?_) #[true, true, false, false, false, false, false, false] rfl rfl (any_of HT_.out (by kernel_rfl)) (fun _ _ _ h => h) (Or.inl ⟨by rfl, ?_⟩) ?_ ?_
                        rotate_left
                        · intro w'
                          go_simp
                          with_reducible rfl
                        rotate_left
                        · simp only [Act.put, List.setIfInBounds_toArray, List.set_cons_zero, List.set_cons_succ, i64_w, i32_w]
                          rfl
                        refine pure_ (i := 2) (N := some 33) (v := ?_) (a' := ?_) #[true, true, true, false, false, false, false, false] rfl rfl (any_of HT_.out (by kernel_rfl)) (fun _ _ _ h => h) (Or.inl ⟨by rfl, ?_⟩) ?_ ?_
                        rotate_left
                        · intro w'
                          go_simp
                          with_reducible rfl
                        rotate_left
                        · simp only [Act.put, List.setIfInBounds_toArray, List.set_cons_zero, List.set_cons_succ, i64_w, i32_w]
                          rfl
                        refine pure_ (i := 3) (N := some 34) (v := ?_) (a' := ?_) #[true, true, true, true, false, false, false, false] rfl rfl (any_of HT_.out (by kernel_rfl)) (fun _ _ _ h => h) (Or.inl ⟨by rfl, ?_⟩) ?_ ?_
                        rotate_left
                        · intro w'
                          go_simp
                          with_reducible rfl
                        rotate_left
                        · simp only [Act.put, List.setIfInBounds_toArray, List.set_cons_zero, List.set_cons_succ, i64_w, i32_w]
                          rfl
                        refine pure_ (i := 5) (N := some 36) (v := ?_) (a' := ?_) #[true, true, true, true, false, true, false, false] rfl rfl (any_of HT_.out (by kernel_rfl)) (fun _ _ _ h => h) (Or.inl ⟨by rfl, ?_⟩) ?_ ?_
                        rotate_left
                        · intro w'
                          go_simp
                          with_reducible rfl
                        rotate_left
                        · simp only [Act.put, List.setIfInBounds_toArray, List.set_cons_zero, List.set_cons_succ, i64_w, i32_w]
                          rfl
                        refine take_ (i := 4) (N := some 35) (v := ?_) (a' := ?_) #[true, true, true, true, true, true, false, false] rfl rfl (take_ofW HT_.out HW_.out (by kernel_rfl)) (fun _ _ _ h => h) (Or.inl ⟨by rfl, ?_⟩) hHeld ?_ ?_
                        rotate_left
                        · rintro w' ⟨s0, s1, s2, s3, s4, s5, s6, s7⟩
                          go_simp
                          with_reducible rfl
                        rotate_left
                        · simp only [Act.put, List.setIfInBounds_toArray, List.set_cons_zero, List.set_cons_succ, i64_w, i32_w]
                          rfl
                        refine take_ (i := 6) (N := some 37) (v := ?_) (a' := ?_) #[true, true, true, true, true, true, true, false] rfl rfl (take_ofW HT_.out HW_.out (by kernel_rfl)) (fun _ _ _ h => h) (Or.inl ⟨by rfl, ?_⟩) hHeld ?_ ?_
                        rotate_left
                        · rintro w' ⟨s0, s1, s2, s3, s4, s5, s6, s7⟩
                          go_simp
                          with_reducible rfl
                        rotate_left
                        · simp only [Act.put, List.setIfInBounds_toArray, List.set_cons_zero, List.set_cons_succ, i64_w, i32_w]
                          rfl
                        refine pure_ (i := 7) (N := some 38) (v := ?_) (a' := ?_) #[true, true, true, true, true, true, true, true] rfl rfl (any_of HT_.out (by kernel_rfl)) (fun _ _ _ h => h) (Or.inl ⟨by rfl, ?_⟩) ?_ ?_
                        rotate_left
                        · intro w'
                          go_simp
                          with_reducible rfl
                        rotate_left
                        · simp only [Act.put, List.setIfInBounds_toArray, List.set_cons_zero, List.set_cons_succ, i64_w, i32_w]
                          rfl
                        refine done_ (done_of HT_.out (by kernel_rfl)) ?_
                        have p285 : 0 ≤ (x7_1 : Int) := of_decide_eq_true (by first | (with_reducible assumption) | assumption)
                        have q285 : x7_1 < (l0.length : Int) := of_decide_eq_true (by first | (with_reducible assumption) | assumption)
                        obtain ⟨ad285, A285_2, c285_2, e285, hx285_0, hx285_1, hx285_2, hx285_3, hl285_2, hi285_2⟩ := at_T34 (Kd.V_reads' HO_0.out).2.2 x7_1 p285 q285
                        obtain rfl : ad284 = ad285 := (by injection e285)
                        obtain ⟨ce285, hce285, hMe285, hcc285⟩ := Kd.V_get HO_0.out z34 x7_1 p285 (by first | exact q285 | exact of_decide_eq_true (by first | (with_reducible assumption) | assumption) | (have e_ := (Kd.V_reads' HO_0.out).1; omega))
                        obtain ⟨ua285_2, uc285_2, rfl, ul285_2, ge285_2⟩ := k34_openF hMe285
                        have hv285_2 := hcc285 2 _ rfl
                        rw [add_field _ _ 2 (by omega)] at hv285_2
                        replace hv285_2 := Option.some.inj (hv285_2.symm.trans hx285_2)
                        injection hv285_2 with hva_ hvn_ hvc_
                        rw [hva_] at ge285_2
                        rw [hvc_] at ul285_2
                        have HL285_2 := Aside0.mk (show Kd.V k36 36 _ w.heap.size _ _ ((rd_T34 l0 x7_1).f1) from Kd.V_mk ul285_2 ge285_2)
                        clear hva_ hvn_ hvc_ ge285_2 ul285_2
                        clear hcc285 hce285
                        have HR285_2 := Aside0.mk hi285_2
                        have HC285_2 := Aside0.mk hl285_2
                        clear hi285_2 hl285_2
                        replace p285 := eq_true p285
                        replace q285 := eq_true q285
                        have ea_ := Option.some.inj (hx284_2.symm.trans hx285_2)
                        injection ea_ with ea_ en_ ec_
                        subst ea_
                        subst ec_
                        clear en_
                        try go_wp2_with (first | ((with_reducible refine gate_builtin (b := .append) (xs := #[.tmp 39, .tmp 44]) rfl ?_); at_builtin; refine Kd.N_append k34 (w0 := w) w.heap.size rfl (.tmp 39) (.tmp 44) 22 34 (.agg #[(.int .u64 0), (.int .u32 0), (.slice none 0 0), (.int .u64 0)]) 48 rfl Try.underlying22 info34 rfl (by decide) (by omega) v282 y281 (⟨(⟨(rd_T34 l0 x7_1).f0.f0, (rd_T34 l0 x7_1).f0.f1⟩ : S31), (rd_T34 l0 x7_1).f1, (rd_T34 l0 x7_1).f2⟩ : S34) [.int .u64 ((rd_T34 l0 x7_1).f0.f0), .int .u32 ((rd_T34 l0 x7_1).f0.f1), .slice A284_2 ((rd_T34 l0 x7_1).f1).length c284_2, .int .u64 ((rd_T34 l0 x7_1).f2)] (fun k_ => ((P0_ k_ ∨ P1_2_ k_) ∨ w.heap.size ≤ k_) ∧ k_ ≠ gb275) (fun k_ => ((fun k_ => ((P0_ k_ ∨ P1_2_ k_) ∨ w.heap.size ≤ k_) ∧ k_ ≠ gb275)) k_ ∧ some k_ ≠ (v282 : Value).ownBlock) rfl rfl ?aP (fun _ hk => hk) ?aF ?aO ?aB ?aS ?aL ?_; (case aP => exact (k34_mkF _ _ (⟨(⟨(rd_T34 l0 x7_1).f0.f0, (rd_T34 l0 x7_1).f0.f1⟩ : S31), (rd_T34 l0 x7_1).f1, (rd_T34 l0 x7_1).f2⟩ : S34) (Kd.V_reads' (Kd.V_mono (ok' := (fun k_ => ((fun k_ => ((P0_ k_ ∨ P1_2_ k_) ∨ w.heap.size ≤ k_) ∧ k_ ≠ gb275)) k_ ∧ some k_ ≠ (v282 : Value).ownBlock)) (HL285_2.out) (fun k_ hk => ⟨⟨hk.1.1, hk.1.2⟩, hk.2⟩))).2.1 (Kd.V_F (Kd.V_mono (ok' := (fun k_ => ((fun k_ => ((P0_ k_ ∨ P1_2_ k_) ∨ w.heap.size ≤ k_) ∧ k_ ≠ gb275)) k_ ∧ some k_ ≠ (v282 : Value).ownBlock)) (HL285_2.out) (fun k_ hk => ⟨⟨hk.1.1, hk.1.2⟩, hk.2⟩))))); (case aB => exact (by repeat (first | (with_reducible first | exact HB.out | apply below_alloc | apply pw_below_drewN | apply below_drew1 | refine below_set ?_ GE275.out) | exact HB.out))); (case aF => exact (fun k_ hk => ⟨(.inr (Nat.le_trans (below_size (by repeat (first | (with_reducible first | exact HB.out | apply below_alloc | apply pw_below_drewN | apply below_drew1 | refine below_set ?_ GE275.out) | exact HB.out))) hk)), Kd.freshB (g := gb275) (o := .cells #[.int .u64 a1_0, .int .u32 a1_1, .slice A1_2 l1_2.length c1_2, .int .u64 a1_3] 34 (0, 0)) (by (with_reducible repeat (first | refine blk_drewN ?_ _ | refine blk_drew ?_ | refine blk_alloc ?_ _)); exact BK275.out) k_ hk⟩)); (case aO => exact (by (with_reducible repeat (first | apply Kd.N_alloc | apply Kd.N_drewN | apply Kd.N_drew)); exact HO283.out)); (case aS => exact (below_size (by repeat (first | (with_reducible first | exact HB.out | apply below_alloc | apply pw_below_drewN | apply below_drew1 | refine below_set ?_ GE275.out) | exact HB.out)))); (case aL => have := LMc17.out; omega); intro v287 w21 ho hb hg hat; rw [← Ny286.out] at ho; have n0_ := Aside0.mk (Kd.V_afterv (ok := (fun k_ => ((P0_ k_ ∨ P1_2_ k_) ∨ w.heap.size ≤ k_) ∧ k_ ≠ gb275)) (by (with_reducible repeat (first | apply Kd.V_alloc | apply Kd.V_drewN | apply Kd.V_drew)); exact HO_0.out) hg hat); have n1_ := Aside0.mk (Kd.V_afterv (ok := (fun k_ => ((P0_ k_ ∨ P1_2_ k_) ∨ w.heap.size ≤ k_) ∧ k_ ≠ gb275)) (by (with_reducible repeat (first | apply Kd.V_alloc | apply Kd.V_drewN | apply Kd.V_drew)); exact HO_276002.out) hg hat); have n2_ := Aside0.mk (blk_grown (g := gb275) (o := .cells #[.int .u64 a1_0, .int .u32 a1_1, .slice A1_2 l1_2.length c1_2, .int .u64 a1_3] 34 (0, 0)) (by (with_reducible repeat (first | refine blk_drewN ?_ _ | refine blk_drew ?_ | refine blk_alloc ?_ _)); exact BK275.out) hg (Kd.N_away HO283.out (fun _ hk => hk.2))); have n3_ := Aside0.mk (Kd.V_afterv (ok := (fun k_ => ((P0_ k_ ∨ P1_2_ k_) ∨ w.heap.size ≤ k_) ∧ k_ ≠ gb275)) (by (with_reducible repeat (first | apply Kd.V_alloc | apply Kd.V_drewN | apply Kd.V_drew)); exact HL284_2.out) hg hat); have n4_ := Aside0.mk (Kd.V_afterv (ok := (fun k_ => ((P0_ k_ ∨ P1_2_ k_) ∨ w.heap.size ≤ k_) ∧ k_ ≠ gb275)) (by (with_reducible repeat (first | apply Kd.V_alloc | apply Kd.V_drewN | apply Kd.V_drew)); exact HL285_2.out) hg hat); have n5_ := Aside0.mk (hb); have n6_ := Aside0.mk (ho); clear HO_0; clear HO_276002; clear BK275; clear HL284_2; clear HL285_2; clear HB; clear HO283; have HO_0 := n0_; have HO_276002 := n1_; have BK275 := n2_; have HL284_2 := n3_; have HL285_2 := n4_; have HB := n5_; have HO288 := n6_; clear n0_ n1_ n2_ n3_ n4_ n5_ n6_; clear ho hb hg hat))
                        go_roundg kj4
                        case measure => have := HK1.out; have := HJ4.out; omega
                        case rel => exact ⟨(y286), (true), (wrap64 (x7_1 + 1)), (by first | rfl | (simp; done) | (simp [*]; done)), (by first | rfl | (simp; done) | (simp [*]; done)), H', ⟨by have := HK1.out; have := HJ4.out; omega⟩, ⟨by (with_reducible repeat (first | apply Kd.V_alloc | apply Kd.V_drewN | apply Kd.V_drew)); exact Kd.V_mono HO_0.out (fun _ hk => ⟨hk.1.1, ⟨hk.2, hk.1.2⟩⟩)⟩, ⟨by (with_reducible repeat (first | apply Kd.N_alloc | apply Kd.N_drewN | apply Kd.N_drew)); exact HO288.out⟩, ⟨by (with_reducible repeat (first | apply Kd.V_alloc | apply Kd.V_drewN | apply Kd.V_drew)); exact Kd.V_mono HO_276002.out (fun _ hk => ⟨hk.1.1, ⟨hk.2, hk.1.2⟩⟩)⟩, ⟨by (with_reducible repeat (first | refine blk_drewN ?_ _ | refine blk_drew ?_ | refine blk_alloc ?_ _)); exact BK275.out⟩, ⟨by repeat (first | (with_reducible first | exact HB.out | apply below_alloc | apply pw_below_drewN | apply below_drew1 | refine below_set ?_ GE275.out) | exact HB.out)⟩⟩
                      · rw [if_neg c17] at H
                        exact absurd H (by simp)
                    · rw [if_neg c16] at H
                      have c16b0 : (!(((rd_T34 l0 x7_1).f0.f0) == a1_0) || (!(((rd_T34 l0 x7_1).f0.f1) == a1_1))) = false := by simpa using c16
                      clear c16
                      have H' := Aside0.mk H
                      clear H
                      have hcz22_0 : wc.cell? ⟨gb275, 0, none⟩ = some (.int .u64 a1_0) := (blk_cell BK275.out 0).trans rfl
                      have hcz22_1 : wc.cell? ⟨gb275, 1, none⟩ = some (.int .u32 a1_1) := (blk_cell BK275.out 1).trans rfl
                      have hcz22_2 : wc.cell? ⟨gb275, 2, none⟩ = some (.slice A1_2 l1_2.length c1_2) := (blk_cell BK275.out 2).trans rfl
                      have hcz22_3 : wc.cell? ⟨gb275, 3, none⟩ = some (.int .u64 a1_3) := (blk_cell BK275.out 3).trans rfl
                      have hfz22_0 := blk_frozen BK275.out 0
                      have hfz22_1 := blk_frozen BK275.out 1
                      have hfz22_2 := blk_frozen BK275.out 2
                      have hfz22_3 := blk_frozen BK275.out 3
                      try go_wp2_with (first | ((with_reducible refine gate_builtin (b := .append) (xs := #[.tmp 27, .tmp 29]) rfl ?_); at_builtin; refine Kd.N_append k34 (w0 := w) w.heap.size rfl (.tmp 27) (.tmp 29) 22 34 (.agg #[(.int .u64 0), (.int .u32 0), (.slice none 0 0), (.int .u64 0)]) 48 rfl Try.underlying22 info34 rfl (by decide) (by omega) u5 x5_1 (⟨(⟨a1_0, a1_1⟩ : S31), l1_2, a1_3⟩ : S34) [.int .u64 a1_0, .int .u32 a1_1, .slice A1_2 l1_2.length c1_2, .int .u64 a1_3] (fun k_ => ((P0_ k_ ∨ P1_2_ k_) ∨ w.heap.size ≤ k_) ∧ k_ ≠ gb275) (fun k_ => ((fun k_ => ((P0_ k_ ∨ P1_2_ k_) ∨ w.heap.size ≤ k_) ∧ k_ ≠ gb275)) k_ ∧ some k_ ≠ (u5 : Value).ownBlock) rfl rfl ?aP (fun _ hk => hk) ?aF ?aO ?aB ?aS ?aL ?_; (case aP => exact (k34_mkF _ _ (⟨(⟨a1_0, a1_1⟩ : S31), l1_2, a1_3⟩ : S34) (Kd.V_reads' (Kd.V_mono (ok' := (fun k_ => ((fun k_ => ((P0_ k_ ∨ P1_2_ k_) ∨ w.heap.size ≤ k_) ∧ k_ ≠ gb275)) k_ ∧ some k_ ≠ (u5 : Value).ownBlock)) (HO_276002.out) (fun k_ hk => ⟨⟨hk.1, hk.2.2⟩, hk.2.1⟩))).2.1 (Kd.V_F (Kd.V_mono (ok' := (fun k_ => ((fun k_ => ((P0_ k_ ∨ P1_2_ k_) ∨ w.heap.size ≤ k_) ∧ k_ ≠ gb275)) k_ ∧ some k_ ≠ (u5 : Value).ownBlock)) (HO_276002.out) (fun k_ hk => ⟨⟨hk.1, hk.2.2⟩, hk.2.1⟩))))); (case aB => exact (by repeat (first | (with_reducible first | exact HB.out | apply below_alloc | apply pw_below_drewN | apply below_drew1 | refine below_set ?_ GE275.out) | exact HB.out))); (case aF => exact (fun k_ hk => ⟨(.inr (Nat.le_trans (below_size (by repeat (first | (with_reducible first | exact HB.out | apply below_alloc | apply pw_below_drewN | apply below_drew1 | refine below_set ?_ GE275.out) | exact HB.out))) hk)), Kd.freshB (g := gb275) (o := .cells #[.int .u64 a1_0, .int .u32 a1_1, .slice A1_2 l1_2.length c1_2, .int .u64 a1_3] 34 (0, 0)) (by (with_reducible repeat (first | refine blk_drewN ?_ _ | refine blk_drew ?_ | refine blk_alloc ?_ _)); exact BK275.out) k_ hk⟩)); (case aO => exact (by (with_reducible repeat (first | apply Kd.N_alloc | apply Kd.N_drewN | apply Kd.N_drew)); exact HO_5.out)); (case aS => exact (below_size (by repeat (first | (with_reducible first | exact HB.out | apply below_alloc | apply pw_below_drewN | apply below_drew1 | refine below_set ?_ GE275.out) | exact HB.out)))); (case aL => have := LMc13.out; omega); intro v282 w23 ho hb hg hat; rw [← Ny281.out] at ho; have n0_ := Aside0.mk (Kd.V_afterv (ok := (fun k_ => ((P0_ k_ ∨ P1_2_ k_) ∨ w.heap.size ≤ k_) ∧ k_ ≠ gb275)) (by (with_reducible repeat (first | apply Kd.V_alloc | apply Kd.V_drewN | apply Kd.V_drew)); exact Kd.V_mono HO_0.out (fun _ hk => ⟨⟨hk.1, hk.2.2⟩, hk.2.1⟩)) hg hat); have n1_ := Aside0.mk (Kd.V_afterv (ok := (fun k_ => ((P0_ k_ ∨ P1_2_ k_) ∨ w.heap.size ≤ k_) ∧ k_ ≠ gb275)) (by (with_reducible repeat (first | apply Kd.V_alloc | apply Kd.V_drewN | apply Kd.V_drew)); exact Kd.V_mono HO_276002.out (fun _ hk => ⟨⟨hk.1, hk.2.2⟩, hk.2.1⟩)) hg hat); have n2_ := Aside0.mk (blk_grown (g := gb275) (o := .cells #[.int .u64 a1_0, .int .u32 a1_1, .slice A1_2 l1_2.length c1_2, .int .u64 a1_3] 34 (0, 0)) (by (with_reducible repeat (first | refine blk_drewN ?_ _ | refine blk_drew ?_ | refine blk_alloc ?_ _)); exact BK275.out) hg (Kd.N_away HO_5.out (fun _ hk => hk.2))); have n3_ := Aside0.mk (hb); have n4_ := Aside0.mk (ho); clear HO_0; clear HO_276002; clear BK275; clear HB; clear HO_5; have HO_0 := n0_; have HO_276002 := n1_; have BK275 := n2_; have HB := n3_; have HO283 := n4_; clear n0_ n1_ n2_ n3_ n4_; clear ho hb hg hat))
                      have n0_ := Aside0.mk (Kd.V_drew HO_0.out)
                      have n1_ := Aside0.mk (Kd.V_drew HO_276002.out)
                      have n2_ := Aside0.mk (Kd.N_drew HO283.out)
                      have n3_ := Aside0.mk (blk_drew BK275.out)
                      have n4_ := Aside0.mk (below_drew1 HB.out)
                      clear HO_0
                      clear HO_276002
                      clear HO283
                      clear BK275
                      clear HB
                      have HO_0 := n0_
                      have HO_276002 := n1_
                      have HO283 := n2_
                      have BK275 := n3_
                      have HB := n4_
                      clear n0_ n1_ n2_ n3_ n4_
                      have p284 : 0 ≤ (x7_1 : Int) := of_decide_eq_true (by first | (with_reducible assumption) | assumption)
                      have q284 : x7_1 < (l0.length : Int) := of_decide_eq_true (by first | (with_reducible assumption) | assumption)
                      obtain ⟨ad284, A284_2, c284_2, e284, hx284_0, hx284_1, hx284_2, hx284_3, hl284_2, hi284_2⟩ := at_T34 (Kd.V_reads' HO_0.out).2.2 x7_1 p284 q284
                      cases e284
                      obtain ⟨ce284, hce284, hMe284, hcc284⟩ := Kd.V_get HO_0.out z34 x7_1 p284 (by first | exact q284 | exact of_decide_eq_true (by first | (with_reducible assumption) | assumption) | (have e_ := (Kd.V_reads' HO_0.out).1; omega))
                      obtain ⟨ua284_2, uc284_2, rfl, ul284_2, ge284_2⟩ := k34_openF hMe284
                      have hv284_2 := hcc284 2 _ rfl
                      rw [add_field _ _ 2 (by omega)] at hv284_2
                      replace hv284_2 := Option.some.inj (hv284_2.symm.trans hx284_2)
                      injection hv284_2 with hva_ hvn_ hvc_
                      rw [hva_] at ge284_2
                      rw [hvc_] at ul284_2
                      have HL284_2 := Aside0.mk (show Kd.V k36 36 _ w.heap.size _ _ ((rd_T34 l0 x7_1).f1) from Kd.V_mk ul284_2 ge284_2)
                      clear hva_ hvn_ hvc_ ge284_2 ul284_2
                      clear hcc284 hce284
                      have HR284_2 := Aside0.mk hi284_2
                      have HC284_2 := Aside0.mk hl284_2
                      clear hi284_2 hl284_2
                      replace p284 := eq_true p284
                      replace q284 := eq_true q284
                      refine start_ (n := 8) (S := fun w' => w'.cell? ⟨gb275, 0, none⟩ = some (.int .u64 a1_0) ∧ w'.cell? ⟨gb275, 1, none⟩ = some (.int .u32 a1_1) ∧ w'.cell? ⟨gb275, 2, none⟩ = some (.slice A1_2 l1_2.length c1_2) ∧ w'.cell? ⟨gb275, 3, none⟩ = some (.int .u64 a1_3) ∧ w'.cell? (ad284.add ((x7_1).toNat * 4)) = some (.int .u64 ((rd_T34 l0 x7_1).f0.f0)) ∧ w'.cell? ⟨(ad284.add ((x7_1).toNat * 4)).block, (ad284.add ((x7_1).toNat * 4)).off + 1, none⟩ = some (.int .u32 ((rd_T34 l0 x7_1).f0.f1)) ∧ w'.cell? ⟨(ad284.add ((x7_1).toNat * 4)).block, (ad284.add ((x7_1).toNat * 4)).off + 2, none⟩ = some (.slice A284_2 ((rd_T34 l0 x7_1).f1).length c284_2) ∧ w'.cell? ⟨(ad284.add ((x7_1).toNat * 4)).block, (ad284.add ((x7_1).toNat * 4)).off + 3, none⟩ = some (.int .u64 ((rd_T34 l0 x7_1).f2))) (ds := []) #[false, false, false, false, false, false, false, false] (by kernel_rfl) rfl rfl ⟨(blk_cell BK275.out 0).trans rfl, (blk_cell BK275.out 1).trans rfl, (blk_cell BK275.out 2).trans rfl, (blk_cell BK275.out 3).trans rfl, hx284_0, hx284_1, hx284_2, hx284_3⟩ (fun hHeld => ?_); refine with_tabW hayloftref10_Put.tab9 hayloftref10_Put.bits9 (fun HT_ HW_ => ?_)
                      generalize w23.drew = w24 at HO_0 HO_276002 HO283 BK275 HB HL284_2 HR284_2 hx284_0 hx284_1 hx284_2 hx284_3 hHeld ⊢
                      refine pure_ (i := 0) (N := some 31) (v := ?_) (a' := ?_) #[true, false, false, false, false, false, false, false] rfl rfl (any_of HT_.out (by kernel_rfl)) (fun _ _ _ h => h) (Or.inl ⟨by rfl, ?_⟩) ?_ ?_
                      rotate_left
                      · intro w'
                        go_simp
                        with_reducible rfl
                      rotate_left
                      · simp only [Act.put, List.setIfInBounds_toArray, List.set_cons_zero, List.set_cons_succ, i64_w, i32_w]
                        rfl
                      refine pure_ (i := 1) (N := some 32) (v := ?_) (a' := ?_) #[true, true, false, false, false, false, false, false] rfl rfl (any_of HT_.out (by kernel_rfl)) (fun _ _ _ h => h) (Or.inl ⟨by rfl, ?_⟩) ?_ ?_
                      rotate_left
                      · intro w'
                        go_simp
                        with_reducible rfl
                      rotate_left
                      · simp only [Act.put, List.setIfInBounds_toArray, List.set_cons_zero, List.set_cons_succ, i64_w, i32_w]
                        rfl
                      refine pure_ (i := 2) (N := some 33) (v := ?_) (a' := ?_) #[true, true, true, false, false, false, false, false] rfl rfl (any_of HT_.out (by kernel_rfl)) (fun _ _ _ h => h) (Or.inl ⟨by rfl, ?_⟩) ?_ ?_
                      rotate_left
                      · intro w'
                        go_simp
                        with_reducible rfl
                      rotate_left
                      · simp only [Act.put, List.setIfInBounds_toArray, List.set_cons_zero, List.set_cons_succ, i64_w, i32_w]
                        rfl
                      refine pure_ (i := 3) (N := some 34) (v := ?_) (a' := ?_) #[true, true, true, true, false, false, false, false] rfl rfl (any_of HT_.out (by kernel_rfl)) (fun _ _ _ h => h) (Or.inl ⟨by rfl, ?_⟩) ?_ ?_
                      rotate_left
                      · intro w'
                        go_simp
                        with_reducible rfl
                      rotate_left
                      · simp only [Act.put, List.setIfInBounds_toArray, List.set_cons_zero, List.set_cons_succ, i64_w, i32_w]
                        rfl
                      refine pure_ (i := 5) (N := some 36) (v := ?_) (a' := ?_) #[true, true, true, true, false, true, false, false] rfl rfl (any_of HT_.out (by kernel_rfl)) (fun _ _ _ h => h) (Or.inl ⟨by rfl, ?_⟩) ?_ ?_
                      rotate_left
                      · intro w'
                        go_simp
                        with_reducible rfl
                      rotate_left
                      · simp only [Act.put, List.setIfInBounds_toArray, List.set_cons_zero, List.set_cons_succ, i64_w, i32_w]
                        rfl
                      refine take_ (i := 4) (N := some 35) (v := ?_) (a' := ?_) #[true, true, true, true, true, true, false, false] rfl rfl (take_ofW HT_.out HW_.out (by kernel_rfl)) (fun _ _ _ h => h) (Or.inl ⟨by rfl, ?_⟩) hHeld ?_ ?_
                      rotate_left
                      · rintro w' ⟨s0, s1, s2, s3, s4, s5, s6, s7⟩
                        go_simp
                        with_reducible rfl
                      rotate_left
                      · simp only [Act.put, List.setIfInBounds_toArray, List.set_cons_zero, List.set_cons_succ, i64_w, i32_w]
                        rfl
                      refine take_ (i := 6) (N := some 37) (v := ?_) (a' := ?_) #[true, true, true, true, true, true, true, false] rfl rfl (take_ofW HT_.out HW_.out (by kernel_rfl)) (fun _ _ _ h => h) (Or.inl ⟨by rfl, ?_⟩) hHeld ?_ ?_
                      rotate_left
                      · rintro w' ⟨s0, s1, s2, s3, s4, s5, s6, s7⟩
                        go_simp
                        with_reducible rfl
                      rotate_left
                      · simp only [Act.put, List.setIfInBounds_toArray, List.set_cons_zero, List.set_cons_succ, i64_w, i32_w]
                        rfl
                      refine pure_ (i := 7) (N := some 38) (v := ?_) (a' := ?_) #[true, true, true, true, true, true, true, true] rfl rfl (any_of HT_.out (by kernel_rfl)) (fun _ _ _ h => h) (Or.inl ⟨by rfl, ?_⟩) ?_ ?_
                      rotate_left
                      · intro w'
                        go_simp
                        with_reducible rfl
                      rotate_left
                      · simp only [Act.put, List.setIfInBounds_toArray, List.set_cons_zero, List.set_cons_succ, i64_w, i32_w]
                        rfl
                      refine done_ (done_of HT_.out (by kernel_rfl)) ?_
                      try go_wp2
                      go_roundg kj4
                      case measure => have := HK1.out; have := HJ4.out; omega
                      case rel => exact ⟨(y281), (true), (wrap64 (x7_1 + 1)), (by first | rfl | (simp; done) | (simp [*]; done)), (by first | rfl | (simp; done) | (simp [*]; done)), H', ⟨by have := HK1.out; have := HJ4.out; omega⟩, ⟨by (with_reducible repeat (first | apply Kd.V_alloc | apply Kd.V_drewN | apply Kd.V_drew)); exact Kd.V_mono HO_0.out (fun _ hk => ⟨hk.1.1, ⟨hk.2, hk.1.2⟩⟩)⟩, ⟨by (with_reducible repeat (first | apply Kd.N_alloc | apply Kd.N_drewN | apply Kd.N_drew)); exact HO283.out⟩, ⟨by (with_reducible repeat (first | apply Kd.V_alloc | apply Kd.V_drewN | apply Kd.V_drew)); exact Kd.V_mono HO_276002.out (fun _ hk => ⟨hk.1.1, ⟨hk.2, hk.1.2⟩⟩)⟩, ⟨by (with_reducible repeat (first | refine blk_drewN ?_ _ | refine blk_drew ?_ | refine blk_alloc ?_ _)); exact BK275.out⟩, ⟨by repeat (first | (with_reducible first | exact HB.out | apply below_alloc | apply pw_below_drewN | apply below_drew1 | refine below_set ?_ GE275.out) | exact HB.out)⟩⟩
                  · rw [if_neg c15] at H
                    exact absurd H (by simp)
                · rw [if_neg c14] at H
                  exact absurd H (by simp)
              · rw [if_neg c13] at H
                exact absurd H (by simp)
            · replace c12 := Bool.eq_false_iff.mpr c12
              subst c12
              have H1 : (if 0 ≤ x7_1 then (if x7_1 < (l0.length : Int) then (if (!(((rd_T34 l0 x7_1).f0.f0) == a1_0) || (!(((rd_T34 l0 x7_1).f0.f1) == a1_1))) = true then (if x5_1.length < 2932031007402 then (hayloftref10_Put.l0 kj4 l0 (x5_1 ++ [(⟨(⟨(rd_T34 l0 x7_1).f0.f0, (rd_T34 l0 x7_1).f0.f1⟩ : S31), (rd_T34 l0 x7_1).f1, (rd_T34 l0 x7_1).f2⟩ : S34)]) x6_1 (wrap64 (x7_1 + 1)) a1_0 a1_1 l1_2 a1_3) else (none)) else (hayloftref10_Put.l0 kj4 l0 x5_1 x6_1 (wrap64 (x7_1 + 1)) a1_0 a1_1 l1_2 a1_3)) else (none)) else (none)) = some r := by rw [if_neg (show ¬ (false = true) by decide)] at H; exact H
              clear H
              have H := H1
              clear H1
              by_cases c25 : 0 ≤ x7_1
              · rw [if_pos c25] at H
                have c25b0 : decide (0 ≤ x7_1) = true := decide_eq_true c25
                clear c25
                by_cases c26 : x7_1 < (l0.length : Int)
                · rw [if_pos c26] at H
                  have c26b0 : decide (x7_1 < (l0.length : Int)) = true := decide_eq_true c26
                  clear c26
                  by_cases c27 : (!(((rd_T34 l0 x7_1).f0.f0) == a1_0) || (!(((rd_T34 l0 x7_1).f0.f1) == a1_1))) = true
                  · rw [if_pos c27] at H
                    have c27b0 : (!(((rd_T34 l0 x7_1).f0.f0) == a1_0) || (!(((rd_T34 l0 x7_1).f0.f1) == a1_1))) = true := c27
                    clear c27
                    by_cases c28 : x5_1.length < 2932031007402
                    · rw [if_pos c28] at H
                      have LMc28 := Aside0.mk c28
                      clear c28
                      obtain ⟨y291, hy291⟩ : ∃ y_ : List (S34), y_ = (x5_1 ++ [(⟨(⟨(rd_T34 l0 x7_1).f0.f0, (rd_T34 l0 x7_1).f0.f1⟩ : S31), (rd_T34 l0 x7_1).f1, (rd_T34 l0 x7_1).f2⟩ : S34)]) := ⟨_, rfl⟩
                      replace H : (hayloftref10_Put.l0 kj4 l0 y291 x6_1 (wrap64 (x7_1 + 1)) a1_0 a1_1 l1_2 a1_3) = some r := by first | (rw [hy291]; with_reducible exact H) | (have H2_ := (Option.bind_some _ _).symm.trans H; rw [hy291]; with_reducible exact H2_) | (have H2_ := (Option.bind_some _ _).symm.trans H; with_reducible exact H2_) | with_reducible exact H | (rw [hy291]; exact H) | exact H
                      have Ny291 := Aside0.mk hy291
                      clear hy291
                      have H' := Aside0.mk H
                      clear H
                      try go_wp2
                      have n0_ := Aside0.mk (Kd.V_drew HO_0.out)
                      have n1_ := Aside0.mk (Kd.N_drew HO_5.out)
                      have n2_ := Aside0.mk (Kd.V_drew HO_276002.out)
                      have n3_ := Aside0.mk (blk_drew BK275.out)
                      have n4_ := Aside0.mk (below_drew1 HB.out)
                      clear HO_0
                      clear HO_5
                      clear HO_276002
                      clear BK275
                      clear HB
                      have HO_0 := n0_
                      have HO_5 := n1_
                      have HO_276002 := n2_
                      have BK275 := n3_
                      have HB := n4_
                      clear n0_ n1_ n2_ n3_ n4_
                      have p289 : 0 ≤ (x7_1 : Int) := of_decide_eq_true (by first | (with_reducible assumption) | assumption)
                      have q289 : x7_1 < (l0.length : Int) := of_decide_eq_true (by first | (with_reducible assumption) | assumption)
                      obtain ⟨ad289, A289_2, c289_2, e289, hx289_0, hx289_1, hx289_2, hx289_3, hl289_2, hi289_2⟩ := at_T34 (Kd.V_reads' HO_0.out).2.2 x7_1 p289 q289
                      cases e289
                      obtain ⟨ce289, hce289, hMe289, hcc289⟩ := Kd.V_get HO_0.out z34 x7_1 p289 (by first | exact q289 | exact of_decide_eq_true (by first | (with_reducible assumption) | assumption) | (have e_ := (Kd.V_reads' HO_0.out).1; omega))
                      obtain ⟨ua289_2, uc289_2, rfl, ul289_2, ge289_2⟩ := k34_openF hMe289
                      have hv289_2 := hcc289 2 _ rfl
                      rw [add_field _ _ 2 (by omega)] at hv289_2
                      replace hv289_2 := Option.some.inj (hv289_2.symm.trans hx289_2)
                      injection hv289_2 with hva_ hvn_ hvc_
                      rw [hva_] at ge289_2
                      rw [hvc_] at ul289_2
                      have HL289_2 := Aside0.mk (show Kd.V k36 36 _ w.heap.size _ _ ((rd_T34 l0 x7_1).f1) from Kd.V_mk ul289_2 ge289_2)
                      clear hva_ hvn_ hvc_ ge289_2 ul289_2
                      clear hcc289 hce289
                      have HR289_2 := Aside0.mk hi289_2
                      have HC289_2 := Aside0.mk hl289_2
                      clear hi289_2 hl289_2
                      replace p289 := eq_true p289
                      replace q289 := eq_true q289
                      refine start_ (n := 8) (S := fun w' => w'.cell? ⟨gb275, 0, none⟩ = some (.int .u64 a1_0) ∧ w'.cell? ⟨gb275, 1, none⟩ = some (.int .u32 a1_1) ∧ w'.cell? ⟨gb275, 2, none⟩ = some (.slice A1_2 l1_2.length c1_2) ∧ w'.cell? ⟨gb275, 3, none⟩ = some (.int .u64 a1_3) ∧ w'.cell? (ad289.add ((x7_1).toNat * 4)) = some (.int .u64 ((rd_T34 l0 x7_1).f0.f0)) ∧ w'.cell? ⟨(ad289.add ((x7_1).toNat * 4)).block, (ad289.add ((x7_1).toNat * 4)).off + 1, none⟩ = some (.int .u32 ((rd_T34 l0 x7_1).f0.f1)) ∧ w'.cell? ⟨(ad289.add ((x7_1).toNat * 4)).block, (ad289.add ((x7_1).toNat * 4)).off + 2, none⟩ = some (.slice A289_2 ((rd_T34 l0 x7_1).f1).length c289_2) ∧ w'.cell? ⟨(ad289.add ((x7_1).toNat * 4)).block, (ad289.add ((x7_1).toNat * 4)).off + 3, none⟩ = some (.int .u64 ((rd_T34 l0 x7_1).f2))) (ds := []) #[false, false, false, false, false, false, false, false] (by kernel_rfl) rfl rfl ⟨(blk_cell BK275.out 0).trans rfl, (blk_cell BK275.out 1).trans rfl, (blk_cell BK275.out 2).trans rfl, (blk_cell BK275.out 3).trans rfl, hx289_0, hx289_1, hx289_2, hx289_3⟩ (fun hHeld => ?_); refine with_tabW hayloftref10_Put.tab9 hayloftref10_Put.bits9 (fun HT_ HW_ => ?_)
                      generalize wc.drew = w29 at HO_0 HO_5 HO_276002 BK275 HB HL289_2 HR289_2 hx289_0 hx289_1 hx289_2 hx289_3 hHeld ⊢
                      refine pure_ (i := 0) (N := some 31) (v := ?_) (a' := ?_) #[true, false, false, false, false, false, false, false] rfl rfl (any_of HT_.out (by kernel_rfl)) (fun _ _ _ h => h) (Or.inl ⟨by rfl, ?_⟩) ?_ ?_
                      rotate_left
                      · intro w'
                        go_simp
                        with_reducible rfl
                      rotate_left
                      · simp only [Act.put, List.setIfInBounds_toArray, List.set_cons_zero, List.set_cons_succ, i64_w, i32_w]
                        rfl
                      refine pure_ (i := 1) (N := some 32) (v := ?_) (a' := ?_) #[true, true, false, false, false, false, false, false] rfl rfl (any_of HT_.out (by kernel_rfl)) (fun _ _ _ h => h) (Or.inl ⟨by rfl, ?_⟩) ?_ ?_
                      rotate_left
                      · intro w'
                        go_simp
                        with_reducible rfl
                      rotate_left
                      · simp only [Act.put, List.setIfInBounds_toArray, List.set_cons_zero, List.set_cons_succ, i64_w, i32_w]
                        rfl
                      refine pure_ (i := 2) (N := some 33) (v := ?_) (a' := ?_) #[true, true, true, false, false, false, false, false] rfl rfl (any_of HT_.out (by kernel_rfl)) (fun _ _ _ h => h) (Or.inl ⟨by rfl, ?_⟩) ?_ ?_
                      rotate_left
                      · intro w'
                        go_simp
                        with_reducible rfl
                      rotate_left
                      · simp only [Act.put, List.setIfInBounds_toArray, List.set_cons_zero, List.set_cons_succ, i64_w, i32_w]
                        rfl
                      refine pure_ (i := 3) (N := some 34) (v := ?_) (a' := ?_) #[true, true, true, true, false, false, false, false] rfl rfl (any_of HT_.out (by kernel_rfl)) (fun _ _ _ h => h) (Or.inl ⟨by rfl, ?_⟩) ?_ ?_
                      rotate_left
                      · intro w'
                        go_simp
                        with_reducible rfl
                      rotate_left
                      · simp only [Act.put, List.setIfInBounds_toArray, List.set_cons_zero, List.set_cons_succ, i64_w, i32_w]
                        rfl
                      refine pure_ (i := 5) (N := some 36) (v := ?_) (a' := ?_) #[true, true, true, true, false, true, false, false] rfl rfl (any_of HT_.out (by kernel_rfl)) (fun _ _ _ h => h) (Or.inl ⟨by rfl, ?_⟩) ?_ ?_
                      rotate_left
                      · intro w'
                        go_simp
                        with_reducible rfl
                      rotate_left
                      · simp only [Act.put, List.setIfInBounds_toArray, List.set_cons_zero, List.set_cons_succ, i64_w, i32_w]
                        rfl
                      refine take_ (i := 4) (N := some 35) (v := ?_) (a' := ?_) #[true, true, true, true, true, true, false, false] rfl rfl (take_ofW HT_.out HW_.out (by kernel_rfl)) (fun _ _ _ h => h) (Or.inl ⟨by rfl, ?_⟩) hHeld ?_ ?_
                      rotate_left
                      · rintro w' ⟨s0, s1, s2, s3, s4, s5, s6, s7⟩
                        go_simp
                        with_reducible rfl
                      rotate_left
                      · simp only [Act.put, List.setIfInBounds_toArray, List.set_cons_zero, List.set_cons_succ, i64_w, i32_w]
                        rfl
                      refine take_ (i := 6) (N := some 37) (v := ?_) (a' := ?_) #[true, true, true, true, true, true, true, false] rfl rfl (take_ofW HT_.out HW_.out (by kernel_rfl)) (fun _ _ _ h => h) (Or.inl ⟨by rfl, ?_⟩) hHeld ?_ ?_
                      rotate_left
                      · rintro w' ⟨s0, s1, s2, s3, s4, s5, s6, s7⟩
                        go_simp
                        with_reducible rfl
                      rotate_left
                      · simp only [Act.put, List.setIfInBounds_toArray, List.set_cons_zero, List.set_cons_succ, i64_w, i32_w]
                        rfl
                      refine pure_ (i := 7) (N := some 38) (v := ?_) (a' := ?_) #[true, true, true, true, true, true, true, true] rfl rfl (any_of HT_.out (by kernel_rfl)) (fun _ _ _ h => h) (Or.inl ⟨by rfl, ?_⟩) ?_ ?_
                      rotate_left
                      · intro w'
                        go_simp
                        with_reducible rfl
                      rotate_left
                      · simp only [Act.put, List.setIfInBounds_toArray, List.set_cons_zero, List.set_cons_succ, i64_w, i32_w]
                        rfl
                      refine done_ (done_of HT_.out (by kernel_rfl)) ?_
                      have p290 : 0 ≤ (x7_1 : Int) := of_decide_eq_true (by first | (with_reducible assumption) | assumption)
                      have q290 : x7_1 < (l0.length : Int) := of_decide_eq_true (by first | (with_reducible assumption) | assumption)
                      obtain ⟨ad290, A290_2, c290_2, e290, hx290_0, hx290_1, hx290_2, hx290_3, hl290_2, hi290_2⟩ := at_T34 (Kd.V_reads' HO_0.out).2.2 x7_1 p290 q290
                      obtain rfl : ad289 = ad290 := (by injection e290)
                      obtain ⟨ce290, hce290, hMe290, hcc290⟩ := Kd.V_get HO_0.out z34 x7_1 p290 (by first | exact q290 | exact of_decide_eq_true (by first | (with_reducible assumption) | assumption) | (have e_ := (Kd.V_reads' HO_0.out).1; omega))
                      obtain ⟨ua290_2, uc290_2, rfl, ul290_2, ge290_2⟩ := k34_openF hMe290
                      have hv290_2 := hcc290 2 _ rfl
                      rw [add_field _ _ 2 (by omega)] at hv290_2
                      replace hv290_2 := Option.some.inj (hv290_2.symm.trans hx290_2)
                      injection hv290_2 with hva_ hvn_ hvc_
                      rw [hva_] at ge290_2
                      rw [hvc_] at ul290_2
                      have HL290_2 := Aside0.mk (show Kd.V k36 36 _ w.heap.size _ _ ((rd_T34 l0 x7_1).f1) from Kd.V_mk ul290_2 ge290_2)
                      clear hva_ hvn_ hvc_ ge290_2 ul290_2
                      clear hcc290 hce290
                      have HR290_2 := Aside0.mk hi290_2
                      have HC290_2 := Aside0.mk hl290_2
                      clear hi290_2 hl290_2
                      replace p290 := eq_true p290
                      replace q290 := eq_true q290
                      have ea_ := Option.some.inj (hx289_2.symm.trans hx290_2)
                      injection ea_ with ea_ en_ ec_
                      subst ea_
                      subst ec_
                      clear en_
                      try go_wp2_with (first | ((with_reducible refine gate_builtin (b := .append) (xs := #[.tmp 39, .tmp 44]) rfl ?_); at_builtin; refine Kd.N_append k34 (w0 := w) w.heap.size rfl (.tmp 39) (.tmp 44) 22 34 (.agg #[(.int .u64 0), (.int .u32 0), (.slice none 0 0), (.int .u64 0)]) 48 rfl Try.underlying22 info34 rfl (by decide) (by omega) u5 x5_1 (⟨(⟨(rd_T34 l0 x7_1).f0.f0, (rd_T34 l0 x7_1).f0.f1⟩ : S31), (rd_T34 l0 x7_1).f1, (rd_T34 l0 x7_1).f2⟩ : S34) [.int .u64 ((rd_T34 l0 x7_1).f0.f0), .int .u32 ((rd_T34 l0 x7_1).f0.f1), .slice A289_2 ((rd_T34 l0 x7_1).f1).length c289_2, .int .u64 ((rd_T34 l0 x7_1).f2)] (fun k_ => ((P0_ k_ ∨ P1_2_ k_) ∨ w.heap.size ≤ k_) ∧ k_ ≠ gb275) (fun k_ => ((fun k_ => ((P0_ k_ ∨ P1_2_ k_) ∨ w.heap.size ≤ k_) ∧ k_ ≠ gb275)) k_ ∧ some k_ ≠ (u5 : Value).ownBlock) rfl rfl ?aP (fun _ hk => hk) ?aF ?aO ?aB ?aS ?aL ?_; (case aP => exact (k34_mkF _ _ (⟨(⟨(rd_T34 l0 x7_1).f0.f0, (rd_T34 l0 x7_1).f0.f1⟩ : S31), (rd_T34 l0 x7_1).f1, (rd_T34 l0 x7_1).f2⟩ : S34) (Kd.V_reads' (Kd.V_mono (ok' := (fun k_ => ((fun k_ => ((P0_ k_ ∨ P1_2_ k_) ∨ w.heap.size ≤ k_) ∧ k_ ≠ gb275)) k_ ∧ some k_ ≠ (u5 : Value).ownBlock)) (HL290_2.out) (fun k_ hk => ⟨⟨hk.1, hk.2.2⟩, hk.2.1⟩))).2.1 (Kd.V_F (Kd.V_mono (ok' := (fun k_ => ((fun k_ => ((P0_ k_ ∨ P1_2_ k_) ∨ w.heap.size ≤ k_) ∧ k_ ≠ gb275)) k_ ∧ some k_ ≠ (u5 : Value).ownBlock)) (HL290_2.out) (fun k_ hk => ⟨⟨hk.1, hk.2.2⟩, hk.2.1⟩))))); (case aB => exact (by repeat (first | (with_reducible first | exact HB.out | apply below_alloc | apply pw_below_drewN | apply below_drew1 | refine below_set ?_ GE275.out) | exact HB.out))); (case aF => exact (fun k_ hk => ⟨(.inr (Nat.le_trans (below_size (by repeat (first | (with_reducible first | exact HB.out | apply below_alloc | apply pw_below_drewN | apply below_drew1 | refine below_set ?_ GE275.out) | exact HB.out))) hk)), Kd.freshB (g := gb275) (o := .cells #[.int .u64 a1_0, .int .u32 a1_1, .slice A1_2 l1_2.length c1_2, .int .u64 a1_3] 34 (0, 0)) (by (with_reducible repeat (first | refine blk_drewN ?_ _ | refine blk_drew ?_ | refine blk_alloc ?_ _)); exact BK275.out) k_ hk⟩)); (case aO => exact (by (with_reducible repeat (first | apply Kd.N_alloc | apply Kd.N_drewN | apply Kd.N_drew)); exact HO_5.out)); (case aS => exact (below_size (by repeat (first | (with_reducible first | exact HB.out | apply below_alloc | apply pw_below_drewN | apply below_drew1 | refine below_set ?_ GE275.out) | exact HB.out)))); (case aL => have := LMc28.out; omega); intro v292 w30 ho hb hg hat; rw [← Ny291.out] at ho; have n0_ := Aside0.mk (Kd.V_afterv (ok := (fun k_ => ((P0_ k_ ∨ P1_2_ k_) ∨ w.heap.size ≤ k_) ∧ k_ ≠ gb275)) (by (with_reducible repeat (first | apply Kd.V_alloc | apply Kd.V_drewN | apply Kd.V_drew)); exact Kd.V_mono HO_0.out (fun _ hk => ⟨⟨hk.1, hk.2.2⟩, hk.2.1⟩)) hg hat); have n1_ := Aside0.mk (Kd.V_afterv (ok := (fun k_ => ((P0_ k_ ∨ P1_2_ k_) ∨ w.heap.size ≤ k_) ∧ k_ ≠ gb275)) (by (with_reducible repeat (first | apply Kd.V_alloc | apply Kd.V_drewN | apply Kd.V_drew)); exact Kd.V_mono HO_276002.out (fun _ hk => ⟨⟨hk.1, hk.2.2⟩, hk.2.1⟩)) hg hat); have n2_ := Aside0.mk (blk_grown (g := gb275) (o := .cells #[.int .u64 a1_0, .int .u32 a1_1, .slice A1_2 l1_2.length c1_2, .int .u64 a1_3] 34 (0, 0)) (by (with_reducible repeat (first | refine blk_drewN ?_ _ | refine blk_drew ?_ | refine blk_alloc ?_ _)); exact BK275.out) hg (Kd.N_away HO_5.out (fun _ hk => hk.2))); have n3_ := Aside0.mk (Kd.V_afterv (ok := (fun k_ => ((P0_ k_ ∨ P1_2_ k_) ∨ w.heap.size ≤ k_) ∧ k_ ≠ gb275)) (by (with_reducible repeat (first | apply Kd.V_alloc | apply Kd.V_drewN | apply Kd.V_drew)); exact Kd.V_mono HL289_2.out (fun _ hk => ⟨⟨hk.1, hk.2.2⟩, hk.2.1⟩)) hg hat); have n4_ := Aside0.mk (Kd.V_afterv (ok := (fun k_ => ((P0_ k_ ∨ P1_2_ k_) ∨ w.heap.size ≤ k_) ∧ k_ ≠ gb275)) (by (with_reducible repeat (first | apply Kd.V_alloc | apply Kd.V_drewN | apply Kd.V_drew)); exact Kd.V_mono HL290_2.out (fun _ hk => ⟨⟨hk.1, hk.2.2⟩, hk.2.1⟩)) hg hat); have n5_ := Aside0.mk (hb); have n6_ := Aside0.mk (ho); clear HO_0; clear HO_276002; clear BK275; clear HL289_2; clear HL290_2; clear HB; clear HO_5; have HO_0 := n0_; have HO_276002 := n1_; have BK275 := n2_; have HL289_2 := n3_; have HL290_2 := n4_; have HB := n5_; have HO293 := n6_; clear n0_ n1_ n2_ n3_ n4_ n5_ n6_; clear ho hb hg hat))
                      go_roundg kj4
                      case measure => have := HK1.out; have := HJ4.out; omega
                      case rel => exact ⟨(y291), (x6_1), (wrap64 (x7_1 + 1)), (by first | rfl | (simp; done) | (simp [*]; done)), (by first | rfl | (simp; done) | (simp [*]; done)), H', ⟨by have := HK1.out; have := HJ4.out; omega⟩, ⟨by (with_reducible repeat (first | apply Kd.V_alloc | apply Kd.V_drewN | apply Kd.V_drew)); exact Kd.V_mono HO_0.out (fun _ hk => ⟨hk.1.1, ⟨hk.2, hk.1.2⟩⟩)⟩, ⟨by (with_reducible repeat (first | apply Kd.N_alloc | apply Kd.N_drewN | apply Kd.N_drew)); exact HO293.out⟩, ⟨by (with_reducible repeat (first | apply Kd.V_alloc | apply Kd.V_drewN | apply Kd.V_drew)); exact Kd.V_mono HO_276002.out (fun _ hk => ⟨hk.1.1, ⟨hk.2, hk.1.2⟩⟩)⟩, ⟨by (with_reducible repeat (first | refine blk_drewN ?_ _ | refine blk_drew ?_ | refine blk_alloc ?_ _)); exact BK275.out⟩, ⟨by repeat (first | (with_reducible first | exact HB.out | apply below_alloc | apply pw_below_drewN | apply below_drew1 | refine below_set ?_ GE275.out) | exact HB.out)⟩⟩
                    · rw [if_neg c28] at H
                      exact absurd H (by simp)
                  · rw [if_neg c27] at H
                    have c27b0 : (!(((rd_T34 l0 x7_1).f0.f0) == a1_0) || (!(((rd_T34 l0 x7_1).f0.f1) == a1_1))) = false := by simpa using c27
                    clear c27
                    have H' := Aside0.mk H
                    clear H
                    try go_wp2
                    have n0_ := Aside0.mk (Kd.V_drew HO_0.out)
                    have n1_ := Aside0.mk (Kd.N_drew HO_5.out)
                    have n2_ := Aside0.mk (Kd.V_drew HO_276002.out)
                    have n3_ := Aside0.mk (blk_drew BK275.out)
                    have n4_ := Aside0.mk (below_drew1 HB.out)
                    clear HO_0
                    clear HO_5
                    clear HO_276002
                    clear BK275
                    clear HB
                    have HO_0 := n0_
                    have HO_5 := n1_
                    have HO_276002 := n2_
                    have BK275 := n3_
                    have HB := n4_
                    clear n0_ n1_ n2_ n3_ n4_
                    have p289 : 0 ≤ (x7_1 : Int) := of_decide_eq_true (by first | (with_reducible assumption) | assumption)
                    have q289 : x7_1 < (l0.length : Int) := of_decide_eq_true (by first | (with_reducible assumption) | assumption)
                    obtain ⟨ad289, A289_2, c289_2, e289, hx289_0, hx289_1, hx289_2, hx289_3, hl289_2, hi289_2⟩ := at_T34 (Kd.V_reads' HO_0.out).2.2 x7_1 p289 q289
                    cases e289
                    obtain ⟨ce289, hce289, hMe289, hcc289⟩ := Kd.V_get HO_0.out z34 x7_1 p289 (by first | exact q289 | exact of_decide_eq_true (by first | (with_reducible assumption) | assumption) | (have e_ := (Kd.V_reads' HO_0.out).1; omega))
                    obtain ⟨ua289_2, uc289_2, rfl, ul289_2, ge289_2⟩ := k34_openF hMe289
                    have hv289_2 := hcc289 2 _ rfl
                    rw [add_field _ _ 2 (by omega)] at hv289_2
                    replace hv289_2 := Option.some.inj (hv289_2.symm.trans hx289_2)
                    injection hv289_2 with hva_ hvn_ hvc_
                    rw [hva_] at ge289_2
                    rw [hvc_] at ul289_2
                    have HL289_2 := Aside0.mk (show Kd.V k36 36 _ w.heap.size _ _ ((rd_T34 l0 x7_1).f1) from Kd.V_mk ul289_2 ge289_2)
                    clear hva_ hvn_ hvc_ ge289_2 ul289_2
                    clear hcc289 hce289
                    have HR289_2 := Aside0.mk hi289_2
                    have HC289_2 := Aside0.mk hl289_2
                    clear hi289_2 hl289_2
                    replace p289 := eq_true p289
                    replace q289 := eq_true q289
                    refine start_ (n := 8) (S := fun w' => w'.cell? ⟨gb275, 0, none⟩ = some (.int .u64 a1_0) ∧ w'.cell? ⟨gb275, 1, none⟩ = some (.int .u32 a1_1) ∧ w'.cell? ⟨gb275, 2, none⟩ = some (.slice A1_2 l1_2.length c1_2) ∧ w'.cell? ⟨gb275, 3, none⟩ = some (.int .u64 a1_3) ∧ w'.cell? (ad289.add ((x7_1).toNat * 4)) = some (.int .u64 ((rd_T34 l0 x7_1).f0.f0)) ∧ w'.cell? ⟨(ad289.add ((x7_1).toNat * 4)).block, (ad289.add ((x7_1).toNat * 4)).off + 1, none⟩ = some (.int .u32 ((rd_T34 l0 x7_1).f0.f1)) ∧ w'.cell? ⟨(ad289.add ((x7_1).toNat * 4)).block, (ad289.add ((x7_1).toNat * 4)).off + 2, none⟩ = some (.slice A289_2 ((rd_T34 l0 x7_1).f1).length c289_2) ∧ w'.cell? ⟨(ad289.add ((x7_1).toNat * 4)).block, (ad289.add ((x7_1).toNat * 4)).off + 3, none⟩ = some (.int .u64 ((rd_T34 l0 x7_1).f2))) (ds := []) #[false, false, false, false, false, false, false, false] (by kernel_rfl) rfl rfl ⟨(blk_cell BK275.out 0).trans rfl, (blk_cell BK275.out 1).trans rfl, (blk_cell BK275.out 2).trans rfl, (blk_cell BK275.out 3).trans rfl, hx289_0, hx289_1, hx289_2, hx289_3⟩ (fun hHeld => ?_); refine with_tabW hayloftref10_Put.tab9 hayloftref10_Put.bits9 (fun HT_ HW_ => ?_)
                    generalize wc.drew = w31 at HO_0 HO_5 HO_276002 BK275 HB HL289_2 HR289_2 hx289_0 hx289_1 hx289_2 hx289_3 hHeld ⊢
                    refine pure_ (i := 0) (N := some 31) (v := ?_) (a' := ?_) #[true, false, false, false, false, false, false, false] rfl rfl (any_of HT_.out (by kernel_rfl)) (fun _ _ _ h => h) (Or.inl ⟨by rfl, ?_⟩) ?_ ?_
                    rotate_left
                    · intro w'
                      go_simp
                      with_reducible rfl
                    rotate_left
                    · simp only [Act.put, List.setIfInBounds_toArray, List.set_cons_zero, List.set_cons_succ, i64_w, i32_w]
                      rfl
                    refine pure_ (i := 1) (N := some 32) (v := ?_) (a' := ?_) #[true, true, false, false, false, false, false, false] rfl rfl (any_of HT_.out (by kernel_rfl)) (fun _ _ _ h => h) (Or.inl ⟨by rfl, ?_⟩) ?_ ?_
                    rotate_left
                    · intro w'
                      go_simp
                      with_reducible rfl
                    rotate_left
                    · simp only [Act.put, List.setIfInBounds_toArray, List.set_cons_zero, List.set_cons_succ, i64_w, i32_w]
                      rfl
                    refine pure_ (i := 2) (N := some 33) (v := ?_) (a' := ?_) #[true, true, true, false, false, false, false, false] rfl rfl (any_of HT_.out (by kernel_rfl)) (fun _ _ _ h => h) (Or.inl ⟨by rfl, ?_⟩) ?_ ?_
                    rotate_left
                    · intro w'
                      go_simp
                      with_reducible rfl
                    rotate_left
                    · simp only [Act.put, List.setIfInBounds_toArray, List.set_cons_zero, List.set_cons_succ, i64_w, i32_w]
                      rfl
                    refine pure_ (i := 3) (N := some 34) (v := ?_) (a' := ?_) #[true, true, true, true, false, false, false, false] rfl rfl (any_of HT_.out (by kernel_rfl)) (fun _ _ _ h => h) (Or.inl ⟨by rfl, ?_⟩) ?_ ?_
                    rotate_left
                    · intro w'
                      go_simp
                      with_reducible rfl
                    rotate_left
                    · simp only [Act.put, List.setIfInBounds_toArray, List.set_cons_zero, List.set_cons_succ, i64_w, i32_w]
                      rfl
                    refine pure_ (i := 5) (N := some 36) (v := ?_) (a' := ?_) #[true, true, true, true, false, true, false, false] rfl rfl (any_of HT_.out (by kernel_rfl)) (fun _ _ _ h => h) (Or.inl ⟨by rfl, ?_⟩) ?_ ?_
                    rotate_left
                    · intro w'
                      go_simp
                      with_reducible rfl
                    rotate_left
                    · simp only [Act.put, List.setIfInBounds_toArray, List.set_cons_zero, List.set_cons_succ, i64_w, i32_w]
                      rfl
                    refine take_ (i := 4) (N := some 35) (v := ?_) (a' := ?_) #[true, true, true, true, true, true, false, false] rfl rfl (take_ofW HT_.out HW_.out (by kernel_rfl)) (fun _ _ _ h => h) (Or.inl ⟨by rfl, ?_⟩) hHeld ?_ ?_
                    rotate_left
                    · rintro w' ⟨s0, s1, s2, s3, s4, s5, s6, s7⟩
                      go_simp
                      with_reducible rfl
                    rotate_left
                    · simp only [Act.put, List.setIfInBounds_toArray, List.set_cons_zero, List.set_cons_succ, i64_w, i32_w]
                      rfl
                    refine take_ (i := 6) (N := some 37) (v := ?_) (a' := ?_) #[true, true, true, true, true, true, true, false] rfl rfl (take_ofW HT_.out HW_.out (by kernel_rfl)) (fun _ _ _ h => h) (Or.inl ⟨by rfl, ?_⟩) hHeld ?_ ?_
                    rotate_left
                    · rintro w' ⟨s0, s1, s2, s3, s4, s5, s6, s7⟩
                      go_simp
                      with_reducible rfl
                    rotate_left
                    · simp only [Act.put, List.setIfInBounds_toArray, List.set_cons_zero, List.set_cons_succ, i64_w, i32_w]
                      rfl
                    refine pure_ (i := 7) (N := some 38) (v := ?_) (a' := ?_) #[true, true, true, true, true, true, true, true] rfl rfl (any_of HT_.out (by kernel_rfl)) (fun _ _ _ h => h) (Or.inl ⟨by rfl, ?_⟩) ?_ ?_
                    rotate_left
                    · intro w'
                      go_simp
                      with_reducible rfl
                    rotate_left
                    · simp only [Act.put, List.setIfInBounds_toArray, List.set_cons_zero, List.set_cons_succ, i64_w, i32_w]
                      rfl
                    refine done_ (done_of HT_.out (by kernel_rfl)) ?_
                    try go_wp2
                    go_roundg kj4
                    case measure => have := HK1.out; have := HJ4.out; omega
                    case rel => exact ⟨(x5_1), (x6_1), (wrap64 (x7_1 + 1)), (by first | rfl | (simp; done) | (simp [*]; done)), (by first | rfl | (simp; done) | (simp [*]; done)), H', ⟨by have := HK1.out; have := HJ4.out; omega⟩, ⟨by (with_reducible repeat (first | apply Kd.V_alloc | apply Kd.V_drewN | apply Kd.V_drew)); exact HO_0.out⟩, ⟨by (with_reducible repeat (first | apply Kd.N_alloc | apply Kd.N_drewN | apply Kd.N_drew)); exact HO_5.out⟩, ⟨by (with_reducible repeat (first | apply Kd.V_alloc | apply Kd.V_drewN | apply Kd.V_drew)); exact HO_276002.out⟩, ⟨by (with_reducible repeat (first | refine blk_drewN ?_ _ | refine blk_drew ?_ | refine blk_alloc ?_ _)); exact BK275.out⟩, ⟨by repeat (first | (with_reducible first | exact HB.out | apply below_alloc | apply pw_below_drewN | apply below_drew1 | refine below_set ?_ GE275.out) | exact HB.out)⟩⟩
                · rw [if_neg c26] at H
                  exact absurd H (by simp)
              · rw [if_neg c25] at H
                exact absurd H (by simp)
      · rw [if_neg c4] at H
        have c4b0 : decide (x7_1 < (l0.length : Int)) = false := decide_eq_false c4
        clear c4
        by_cases c32 : x6_1 = true
        · subst c32
          have H1 : (some x5_1) = some r := by rw [if_pos rfl] at H; exact H
          clear H
          have H := H1
          clear H1
          obtain rfl := Option.some.inj H
          go_wp2
          go_ret
          exact ⟨_, by first | rfl | (simp [errW_none, errW_some] <;> rfl) | (simp [*, errW_none, errW_some] <;> rfl), by (with_reducible repeat (first | apply Kd.N_alloc | apply Kd.N_drewN | apply Kd.N_drew)); exact Kd.N_mono HO_5.out (fun _ hk => hk.1), by repeat (first | (with_reducible first | exact HB.out | apply below_alloc | apply pw_below_drewN | apply below_drew1 | refine below_set ?_ GE275.out) | exact HB.out)⟩
        · replace c32 := Bool.eq_false_iff.mpr c32
          subst c32
          have H1 : (if x5_1.length < 2932031007402 then (some (x5_1 ++ [(⟨(⟨a1_0, a1_1⟩ : S31), l1_2, a1_3⟩ : S34)])) else (none)) = some r := by rw [if_neg (show ¬ (false = true) by decide)] at H; exact H
          clear H
          have H := H1
          clear H1
          by_cases c33 : x5_1.length < 2932031007402
          · rw [if_pos c33] at H
            have LMc33 := Aside0.mk c33
            clear c33
            obtain ⟨y276, hy276⟩ : ∃ y_ : List (S34), y_ = (x5_1 ++ [(⟨(⟨a1_0, a1_1⟩ : S31), l1_2, a1_3⟩ : S34)]) := ⟨_, rfl⟩
            replace H : (some y276) = some r := by first | (rw [hy276]; with_reducible exact H) | (have H2_ := (Option.bind_some _ _).symm.trans H; rw [hy276]; with_reducible exact H2_) | (have H2_ := (Option.bind_some _ _).symm.trans H; with_reducible exact H2_) | with_reducible exact H | (rw [hy276]; exact H) | exact H
            have Ny276 := Aside0.mk hy276
            clear hy276
            obtain rfl := Option.some.inj H
            have hcz34_0 : wr.cell? ⟨gb275, 0, none⟩ = some (.int .u64 a1_0) := (blk_cell BK275.out 0).trans rfl
            have hcz34_1 : wr.cell? ⟨gb275, 1, none⟩ = some (.int .u32 a1_1) := (blk_cell BK275.out 1).trans rfl
            have hcz34_2 : wr.cell? ⟨gb275, 2, none⟩ = some (.slice A1_2 l1_2.length c1_2) := (blk_cell BK275.out 2).trans rfl
            have hcz34_3 : wr.cell? ⟨gb275, 3, none⟩ = some (.int .u64 a1_3) := (blk_cell BK275.out 3).trans rfl
            have hfz34_0 := blk_frozen BK275.out 0
            have hfz34_1 := blk_frozen BK275.out 1
            have hfz34_2 := blk_frozen BK275.out 2
            have hfz34_3 := blk_frozen BK275.out 3
            go_wp2_with (first | ((with_reducible refine gate_builtin (b := .append) (xs := #[.tmp 48, .tmp 50]) rfl ?_); at_builtin; refine Kd.N_append k34 (w0 := w) w.heap.size rfl (.tmp 48) (.tmp 50) 22 34 (.agg #[(.int .u64 0), (.int .u32 0), (.slice none 0 0), (.int .u64 0)]) 48 rfl Try.underlying22 info34 rfl (by decide) (by omega) u5 x5_1 (⟨(⟨a1_0, a1_1⟩ : S31), l1_2, a1_3⟩ : S34) [.int .u64 a1_0, .int .u32 a1_1, .slice A1_2 l1_2.length c1_2, .int .u64 a1_3] (fun k_ => ((P0_ k_ ∨ P1_2_ k_) ∨ w.heap.size ≤ k_) ∧ k_ ≠ gb275) (fun k_ => ((fun k_ => ((P0_ k_ ∨ P1_2_ k_) ∨ w.heap.size ≤ k_) ∧ k_ ≠ gb275)) k_ ∧ some k_ ≠ (u5 : Value).ownBlock) rfl rfl ?aP (fun _ hk => hk) ?aF ?aO ?aB ?aS ?aL ?_; (case aP => exact (k34_mkF _ _ (⟨(⟨a1_0, a1_1⟩ : S31), l1_2, a1_3⟩ : S34) (Kd.V_reads' (Kd.V_mono (ok' := (fun k_ => ((fun k_ => ((P0_ k_ ∨ P1_2_ k_) ∨ w.heap.size ≤ k_) ∧ k_ ≠ gb275)) k_ ∧ some k_ ≠ (u5 : Value).ownBlock)) (HO_276002.out) (fun k_ hk => ⟨⟨hk.1, hk.2.2⟩, hk.2.1⟩))).2.1 (Kd.V_F (Kd.V_mono (ok' := (fun k_ => ((fun k_ => ((P0_ k_ ∨ P1_2_ k_) ∨ w.heap.size ≤ k_) ∧ k_ ≠ gb275)) k_ ∧ some k_ ≠ (u5 : Value).ownBlock)) (HO_276002.out) (fun k_ hk => ⟨⟨hk.1, hk.2.2⟩, hk.2.1⟩))))); (case aB => exact (by repeat (first | (with_reducible first | exact HB.out | apply below_alloc | apply pw_below_drewN | apply below_drew1 | refine below_set ?_ GE275.out) | exact HB.out))); (case aF => exact (fun k_ hk => ⟨(.inr (Nat.le_trans (below_size (by repeat (first | (with_reducible first | exact HB.out | apply below_alloc | apply pw_below_drewN | apply below_drew1 | refine below_set ?_ GE275.out) | exact HB.out))) hk)), Kd.freshB (g := gb275) (o := .cells #[.int .u64 a1_0, .int .u32 a1_1, .slice A1_2 l1_2.length c1_2, .int .u64 a1_3] 34 (0, 0)) (by (with_reducible repeat (first | refine blk_drewN ?_ _ | refine blk_drew ?_ | refine blk_alloc ?_ _)); exact BK275.out) k_ hk⟩)); (case aO => exact (by (with_reducible repeat (first | apply Kd.N_alloc | apply Kd.N_drewN | apply Kd.N_drew)); exact HO_5.out)); (case aS => exact (below_size (by repeat (first | (with_reducible first | exact HB.out | apply below_alloc | apply pw_below_drewN | apply below_drew1 | refine below_set ?_ GE275.out) | exact HB.out)))); (case aL => have := LMc33.out; omega); intro v277 w35 ho hb hg hat; rw [← Ny276.out] at ho; have n0_ := Aside0.mk (Kd.V_afterv (ok := (fun k_ => ((P0_ k_ ∨ P1_2_ k_) ∨ w.heap.size ≤ k_) ∧ k_ ≠ gb275)) (by (with_reducible repeat (first | apply Kd.V_alloc | apply Kd.V_drewN | apply Kd.V_drew)); exact Kd.V_mono HO_0.out (fun _ hk => ⟨⟨hk.1, hk.2.2⟩, hk.2.1⟩)) hg hat); have n1_ := Aside0.mk (Kd.V_afterv (ok := (fun k_ => ((P0_ k_ ∨ P1_2_ k_) ∨ w.heap.size ≤ k_) ∧ k_ ≠ gb275)) (by (with_reducible repeat (first | apply Kd.V_alloc | apply Kd.V_drewN | apply Kd.V_drew)); exact Kd.V_mono HO_276002.out (fun _ hk => ⟨⟨hk.1, hk.2.2⟩, hk.2.1⟩)) hg hat); have n2_ := Aside0.mk (blk_grown (g := gb275) (o := .cells #[.int .u64 a1_0, .int .u32 a1_1, .slice A1_2 l1_2.length c1_2, .int .u64 a1_3] 34 (0, 0)) (by (with_reducible repeat (first | refine blk_drewN ?_ _ | refine blk_drew ?_ | refine blk_alloc ?_ _)); exact BK275.out) hg (Kd.N_away HO_5.out (fun _ hk => hk.2))); have n3_ := Aside0.mk (hb); have n4_ := Aside0.mk (ho); clear HO_0; clear HO_276002; clear BK275; clear HB; clear HO_5; have HO_0 := n0_; have HO_276002 := n1_; have BK275 := n2_; have HB := n3_; have HO278 := n4_; clear n0_ n1_ n2_ n3_ n4_; clear ho hb hg hat))
            go_ret
            exact ⟨_, by first | rfl | (simp [errW_none, errW_some] <;> rfl) | (simp [*, errW_none, errW_some] <;> rfl), by (with_reducible repeat (first | apply Kd.N_alloc | apply Kd.N_drewN | apply Kd.N_drew)); exact Kd.N_mono HO278.out (fun _ hk => hk.1), by repeat (first | (with_reducible first | exact HB.out | apply below_alloc | apply pw_below_drewN | apply below_drew1 | refine below_set ?_ GE275.out) | exact HB.out)⟩
          · rw [if_neg c33] at H
            exact absurd H (by simp)

end Go.Proofs.Ytfepfpcilmaojaa.QV
/- Printed by mp.py (this session's) with the kit's print: plain functions with the answers of the Go code, and the proofs of it. -/
namespace Go.Proofs.Ytfepfpcilmaojaa.QV
open Go.RowKit Go.Proofs.YtfepfpcilmaojaaW.PrintWords Go.Proofs.YtfepfpcilmaojaaW.PrintLast Go.Proofs.YtfepfpcilmaojaaW.PrintMore
attribute [local go_sem] max2_int min2_int max_two min_two max_three min_three max_four min_four   -- for this text's walks alone
set_option linter.unusedVariables false
set_option linter.unusedSimpArgs false

/-! ### hayloftref18_once: function 31 -/
def hayloftref18_once.l0 : Nat → List (S34) → List (S34) → Int → Option ((List (S34)))
  | 0, _, _, _ => none
  | k + 1, x0, x3, x4 => if x4 < (x0.length : Int) then (if 0 ≤ x4 then ((hayloftref10_Place.f k x3 ((rd_T34 x0 x4).f0.f0) ((rd_T34 x0 x4).f0.f1)).bind fun t295 => (if t295 < 0 then ((hayloftref10_Put.f k x3 ((rd_T34 x0 x4).f0.f0) ((rd_T34 x0 x4).f0.f1) ((rd_T34 x0 x4).f1) ((rd_T34 x0 x4).f2)).bind fun t297 => (hayloftref18_once.l0 k x0 t297 (wrap64 (x4 + 1)))) else (hayloftref18_once.l0 k x0 x3 (wrap64 (x4 + 1))))) else (none)) else (some x3)
def hayloftref18_once.f (k : Nat) (l0 : List (S34)) : Option ((List (S34))) := hayloftref18_once.l0 k l0 ([] : List (S34)) 0
theorem hayloftref18_once.mono_l : ∀ k, (∀ y0 y1 y2, LeO (hayloftref18_once.l0 k y0 y1 y2) (hayloftref18_once.l0 (k + 1) y0 y1 y2))
  | 0 => fun _ _ _ r h => by simp [hayloftref18_once.l0] at h
  | k + 1 => by
    have ih0 := hayloftref18_once.mono_l k
    · intro y0 y1 y2
      unfold hayloftref18_once.l0
      repeat' first
      | (with_reducible exact ih0 _ _ _)
      | (with_reducible exact hayloftref10_Place.mono _ _ _ _)
      | (with_reducible exact hayloftref10_Put.mono _ _ _ _ _ _)
      | (with_reducible exact LeO.refl _)
      | (with_reducible exact LeO.none _)
      | (with_reducible refine LeO.ite ?_ ?_)
      | (with_reducible refine LeO.bind ?_ (fun _ => ?_))
      | exact ih0 _ _ _
      | exact hayloftref10_Place.mono _ _ _ _
      | exact hayloftref10_Put.mono _ _ _ _ _ _
      | exact LeO.none _
      | refine LeO.ite ?_ ?_
      | refine LeO.bind ?_ (fun _ => ?_)
theorem hayloftref18_once.mono : ∀ a0 k, LeO (hayloftref18_once.f k a0) (hayloftref18_once.f (k + 1) a0) := by
  intro a0 k
  have ih0 := hayloftref18_once.mono_l k
  unfold hayloftref18_once.f
  repeat' first
      | (with_reducible exact ih0 _ _ _)
      | (with_reducible exact hayloftref10_Place.mono _ _ _ _)
      | (with_reducible exact hayloftref10_Put.mono _ _ _ _ _ _)
      | (with_reducible exact LeO.refl _)
      | (with_reducible exact LeO.none _)
      | (with_reducible refine LeO.ite ?_ ?_)
      | (with_reducible refine LeO.bind ?_ (fun _ => ?_))
      | exact ih0 _ _ _
      | exact hayloftref10_Place.mono _ _ _ _
      | exact hayloftref10_Put.mono _ _ _ _ _ _
      | exact LeO.none _
      | refine LeO.ite ?_ ?_
      | refine LeO.bind ?_ (fun _ => ?_)
set_option maxHeartbeats 8000000 in
set_option maxRecDepth 100000 in
theorem hayloftref18_once.calls (k : Nat) (P0_ : Nat → Prop) (A0 : Option Addr) (c0 : Nat) (l0 : List (S34)) (r : List (S34)) (w : World) (hs0 : Kd.V k34 34 w w.heap.size (fun k_ => P0_ k_) (.slice A0 l0.length c0) l0) (h : hayloftref18_once.f k l0 = some r) :
    Calls Try.prog 31 #[.slice A0 l0.length c0] w fun e w' => ∃ v0_ : Value, e = .returned (v0_) ∧ Kd.N k34 34 w' w.heap.size (fun k_ => (P0_ k_ ∨ w.heap.size ≤ k_)) v0_ r ∧ Below w.heap.size w w' := by
  have hu31 := Try.underlying31
  have hu34 := Try.underlying34
  have HO0 := Aside0.mk (show Kd.V k34 34 w w.heap.size (fun k_ => (P0_ k_ ∨ w.heap.size ≤ k_)) (.slice A0 l0.length c0) l0 from Kd.V_mono hs0 (fun k_ hk => .inl hk))
  have HB := Aside0.mk (Below.refl w.heap.size w)
  have H : (hayloftref18_once.l0 k l0 ([] : List (S34)) 0) = some r := h
  clear h
  have H' := Aside0.mk H
  clear H
  go_enter Try.func31, Try.ntmps31
  go_wp2
  go_loopg [3, 4] k (fun kq v3 v4 w' => ∃ (x3_1 : List (S34)) (x4_1 : Int), v4 = .int .i64 x4_1 ∧ Aside0 (hayloftref18_once.l0 kq l0 x3_1 x4_1 = some r) ∧ Aside0 (kq ≤ k) ∧ Aside0 (Kd.V k34 34 w' w.heap.size (fun k_ => (P0_ k_ ∨ w.heap.size ≤ k_) ∧ some k_ ≠ (v3 : Value).ownBlock) (.slice A0 l0.length c0) l0) ∧ Aside0 (Kd.N k34 34 w' w.heap.size (fun k_ => (P0_ k_ ∨ w.heap.size ≤ k_)) v3 x3_1) ∧ Aside0 (Below w.heap.size w w'))
  case atStart => exact ⟨(([] : List (S34))), (0), (by first | rfl | (simp; done) | (simp [*]; done)), H', ⟨Nat.le_refl _⟩, ⟨by (with_reducible repeat (first | apply Kd.V_alloc | apply Kd.V_drewN | apply Kd.V_drew)); exact Kd.V_mono HO0.out (fun _ hk => ⟨hk, (by simp [Value.ownBlock])⟩)⟩, ⟨by first | exact Kd.S_nil _ _ _ _ _ | exact Kd.N_nil _ _ _ _ _ | exact Kd.V_nil _ _ _ _ _ | exact Kd.Q_nil _ _ _ _ _ | exact Kd.R_nil _ _ _ _ _⟩, ⟨by repeat (first | (with_reducible first | exact HB.out | apply below_alloc | apply pw_below_drewN | apply below_drew1) | exact HB.out)⟩⟩
  case round =>
    clear H'
    obtain ⟨x3_1, x4_1, rfl, HA, HK1, HO_0, HO_3, HB⟩ := hrel
    cases gk with
    | zero => exact absurd HA.out (by simp [hayloftref18_once.l0])
    | succ k1 =>
      have H := HA.out
      clear HA
      simp only [hayloftref18_once.l0] at H
      by_cases c2 : x4_1 < (l0.length : Int)
      · rw [if_pos c2] at H
        have c2b0 : decide (x4_1 < (l0.length : Int)) = true := decide_eq_true c2
        clear c2
        by_cases c3 : 0 ≤ x4_1
        · rw [if_pos c3] at H
          have c3b0 : decide (0 ≤ x4_1) = true := decide_eq_true c3
          clear c3
          replace H := Option.bind_eq_some_iff.mp H
          obtain ⟨t295, A40, H⟩ := H
          replace H : (if t295 < 0 then ((hayloftref10_Put.f k1 x3_1 ((rd_T34 l0 x4_1).f0.f0) ((rd_T34 l0 x4_1).f0.f1) ((rd_T34 l0 x4_1).f1) ((rd_T34 l0 x4_1).f2)).bind fun t297 => (hayloftref18_once.l0 k1 l0 t297 (wrap64 (x4_1 + 1)))) else (hayloftref18_once.l0 k1 l0 x3_1 (wrap64 (x4_1 + 1)))) = some r := H
          have A4 := Aside0.mk A40
          clear A40
          by_cases c5 : t295 < 0
          · rw [if_pos c5] at H
            have c5b0 : decide (t295 < 0) = true := decide_eq_true c5
            clear c5
            replace H := Option.bind_eq_some_iff.mp H
            obtain ⟨t297, A60, H⟩ := H
            replace H : (hayloftref18_once.l0 k1 l0 t297 (wrap64 (x4_1 + 1))) = some r := H
            have A6 := Aside0.mk A60
            clear A60
            have H' := Aside0.mk H
            clear H
            have p294 : 0 ≤ (x4_1 : Int) := of_decide_eq_true (by first | (with_reducible assumption) | assumption)
            have q294 : x4_1 < (l0.length : Int) := of_decide_eq_true (by first | (with_reducible assumption) | assumption)
            obtain ⟨ad294, A294_2, c294_2, e294, hx294_0, hx294_1, hx294_2, hx294_3, hl294_2, hi294_2⟩ := at_T34 (Kd.V_reads' HO_0.out).2.2 x4_1 p294 q294
            cases e294
            obtain ⟨ce294, hce294, hMe294, hcc294⟩ := Kd.V_get HO_0.out z34 x4_1 p294 (by first | exact q294 | exact of_decide_eq_true (by first | (with_reducible assumption) | assumption) | (have e_ := (Kd.V_reads' HO_0.out).1; omega))
            obtain ⟨ua294_2, uc294_2, rfl, ul294_2, ge294_2⟩ := k34_openF hMe294
            have hv294_2 := hcc294 2 _ rfl
            rw [add_field _ _ 2 (by omega)] at hv294_2
            replace hv294_2 := Option.some.inj (hv294_2.symm.trans hx294_2)
            injection hv294_2 with hva_ hvn_ hvc_
            rw [hva_] at ge294_2
            rw [hvc_] at ul294_2
            have HL294_2 := Aside0.mk (show Kd.V k36 36 _ w.heap.size _ _ ((rd_T34 l0 x4_1).f1) from Kd.V_mk ul294_2 ge294_2)
            clear hva_ hvn_ hvc_ ge294_2 ul294_2
            clear hcc294 hce294
            have HR294_2 := Aside0.mk hi294_2
            have HC294_2 := Aside0.mk hl294_2
            clear hi294_2 hl294_2
            replace p294 := eq_true p294
            replace q294 := eq_true q294
            obtain ⟨Ao7, co7, eo7⟩ := Kd.N_slice HO_3.out
            subst eo7
            go_wp2_with (first | ((with_reducible refine gate_callee (f := 20) rfl ?_); refine goesL_ (some 17) rfl rfl Try.func20 (by kernel_rfl) rfl #[.slice Ao7 x3_1.length co7, .agg #[.int .u64 ((rd_T34 l0 x4_1).f0.f0), .int .u32 ((rd_T34 l0 x4_1).f0.f1)]] rfl (by (try simp only [List.map_toArray, List.map_cons, List.map_nil]); first | done | rfl | (simp only [List.length_drop, List.length_take]; rfl)) ?_; (with_reducible refine (hayloftref10_Place.calls k1 _ _ x3_1 ((rd_T34 l0 x4_1).f0.f0) ((rd_T34 l0 x4_1).f0.f1) t295 _ ?side1 ?side2 A4.out).mono ?_); (case side1 => repeat (first | exact (Kd.N_reads' HO_3.out).2.2 | (with_reducible refine Kd.C_alloc ?_ _) | (with_reducible refine Kd.C_drewN ?_ _) | (with_reducible refine Kd.C_drew ?_))); (case side2 => exact (Kd.N_reads' HO_3.out).2.1); rintro e w8 ⟨rfl, hb⟩; refine ⟨_, rfl, ?_⟩; have n0_ := Aside0.mk (Kd.V_below (by (with_reducible repeat (first | apply Kd.V_alloc | apply Kd.V_drewN | apply Kd.V_drew)); exact HO_0.out) hb); have n1_ := Aside0.mk (Kd.N_below (by (with_reducible repeat (first | apply Kd.N_alloc | apply Kd.N_drewN | apply Kd.N_drew)); exact HO_3.out) hb); have n2_ := Aside0.mk (Kd.V_below (by (with_reducible repeat (first | apply Kd.V_alloc | apply Kd.V_drewN | apply Kd.V_drew)); exact HL294_2.out) hb); have n3_ := Aside0.mk (Kd.C_below (by repeat (first | (with_reducible exact HR294_2.out) | (with_reducible refine Kd.C_alloc ?_ _) | (with_reducible refine Kd.C_drewN ?_ _) | (with_reducible refine Kd.C_drew ?_) | exact HR294_2.out)) hb); have n4_ := Aside0.mk (below_step (by repeat (first | (with_reducible first | exact HB.out | apply below_alloc | apply pw_below_drewN | apply below_drew1) | exact HB.out)) hb); clear HO_0; clear HO_3; clear HL294_2; clear HR294_2; clear HB; have HO_0 := n0_; have HO_3 := n1_; have HL294_2 := n2_; have HR294_2 := n3_; have HB := n4_; clear n0_ n1_ n2_ n3_ n4_; (try clear hb); (try clear hb2); (try clear hk); (try clear hi); have p296 : 0 ≤ (x4_1 : Int) := of_decide_eq_true (by first | (with_reducible assumption) | assumption); have q296 : x4_1 < (l0.length : Int) := of_decide_eq_true (by first | (with_reducible assumption) | assumption); obtain ⟨ad296, A296_2, c296_2, e296, hx296_0, hx296_1, hx296_2, hx296_3, hl296_2, hi296_2⟩ := at_T34 (Kd.V_reads' HO_0.out).2.2 x4_1 p296 q296; obtain rfl : ad294 = ad296 := (by injection e296); obtain ⟨ce296, hce296, hMe296, hcc296⟩ := Kd.V_get HO_0.out z34 x4_1 p296 (by first | exact q296 | exact of_decide_eq_true (by first | (with_reducible assumption) | assumption) | (have e_ := (Kd.V_reads' HO_0.out).1; omega)); obtain ⟨ua296_2, uc296_2, rfl, ul296_2, ge296_2⟩ := k34_openF hMe296; have hv296_2 := hcc296 2 _ rfl; rw [add_field _ _ 2 (by omega)] at hv296_2; replace hv296_2 := Option.some.inj (hv296_2.symm.trans hx296_2); injection hv296_2 with hva_ hvn_ hvc_; rw [hva_] at ge296_2; rw [hvc_] at ul296_2; have HL296_2 := Aside0.mk (show Kd.V k36 36 _ w.heap.size _ _ ((rd_T34 l0 x4_1).f1) from Kd.V_mk ul296_2 ge296_2); clear hva_ hvn_ hvc_ ge296_2 ul296_2; clear hcc296 hce296; have HR296_2 := Aside0.mk hi296_2; have HC296_2 := Aside0.mk hl296_2; clear hi296_2 hl296_2; replace p296 := eq_true p296; replace q296 := eq_true q296) | ((with_reducible refine gate_callee (f := 34) rfl ?_); refine goesL_ (some 24) rfl rfl Try.func34 (by kernel_rfl) rfl #[.slice Ao7 x3_1.length co7, .agg #[.int .u64 ((rd_T34 l0 x4_1).f0.f0), .int .u32 ((rd_T34 l0 x4_1).f0.f1), .slice A296_2 ((rd_T34 l0 x4_1).f1).length c296_2, .int .u64 ((rd_T34 l0 x4_1).f2)]] rfl (by (try simp only [List.map_toArray, List.map_cons, List.map_nil]); first | done | rfl | (simp only [List.length_drop, List.length_take]; rfl)) ?_; (with_reducible refine (hayloftref10_Put.calls k1 (fun k_ => (P0_ k_ ∨ w.heap.size ≤ k_)) _ _ x3_1 ((rd_T34 l0 x4_1).f0.f0) ((rd_T34 l0 x4_1).f0.f1) (fun k_ => ((P0_ k_ ∨ w.heap.size ≤ k_) ∧ some k_ ≠ (.slice Ao7 x3_1.length co7 : Value).ownBlock)) _ _ ((rd_T34 l0 x4_1).f1) ((rd_T34 l0 x4_1).f2) t297 _ ?side1 ?side2 A6.out).mono ?_); (case side1 => exact Kd.N_V (HO_3.out)); (case side2 => exact HL296_2.out); rintro e w9 ⟨v298, rfl, ho0, hb⟩; refine ⟨_, rfl, ?_⟩; have n0_ := Aside0.mk (Kd.V_elder' (by (with_reducible repeat (first | apply Kd.V_alloc | apply Kd.V_drewN | apply Kd.V_drew)); exact HO_0.out) (Kd.N_base ho0) hb); have n1_ := Aside0.mk (Kd.N_elder' (by (with_reducible repeat (first | apply Kd.N_alloc | apply Kd.N_drewN | apply Kd.N_drew)); exact HO_3.out) (Kd.N_base ho0) hb); have n2_ := Aside0.mk (Kd.V_elder' (by (with_reducible repeat (first | apply Kd.V_alloc | apply Kd.V_drewN | apply Kd.V_drew)); exact HL294_2.out) (Kd.N_base ho0) hb); have n3_ := Aside0.mk (Kd.V_elder' (by (with_reducible repeat (first | apply Kd.V_alloc | apply Kd.V_drewN | apply Kd.V_drew)); exact HL296_2.out) (Kd.N_base ho0) hb); have n4_ := Aside0.mk (Kd.N_lower (Kd.N_mono (ok' := fun k_ => (P0_ k_ ∨ w.heap.size ≤ k_)) ho0 (fun k_ hk_ => Or.elim hk_ (fun hs_ => Or.elim hs_ (fun hs_ => hs_) (fun hs_ => hs_.1)) (fun hn_ => (.inr (Nat.le_trans (below_size (by repeat (first | (with_reducible first | exact HB.out | apply below_alloc | apply pw_below_drewN | apply below_drew1) | exact HB.out))) hn_))))) (below_size (by repeat (first | (with_reducible first | exact HB.out | apply below_alloc | apply pw_below_drewN | apply below_drew1) | exact HB.out)))); have n5_ := Aside0.mk (Kd.C_below (by repeat (first | (with_reducible exact HR294_2.out) | (with_reducible refine Kd.C_alloc ?_ _) | (with_reducible refine Kd.C_drewN ?_ _) | (with_reducible refine Kd.C_drew ?_) | exact HR294_2.out)) hb); have n6_ := Aside0.mk (Kd.C_below (by repeat (first | (with_reducible exact HR296_2.out) | (with_reducible refine Kd.C_alloc ?_ _) | (with_reducible refine Kd.C_drewN ?_ _) | (with_reducible refine Kd.C_drew ?_) | exact HR296_2.out)) hb); have n7_ := Aside0.mk (below_step (by repeat (first | (with_reducible first | exact HB.out | apply below_alloc | apply pw_below_drewN | apply below_drew1) | exact HB.out)) hb); clear HO_0; clear HO_3; clear HL294_2; clear HL296_2; clear HR294_2; clear HR296_2; clear HB; have HO_0 := n0_; have HO_3 := n1_; have HL294_2 := n2_; have HL296_2 := n3_; have HO299 := n4_; have HR294_2 := n5_; have HR296_2 := n6_; have HB := n7_; clear n0_ n1_ n2_ n3_ n4_ n5_ n6_ n7_; (try clear hb); (try clear hb2); (try clear hk); (try clear hi); (try clear ho0)))
            go_roundg k1
            case measure => have := HK1.out; omega
            case rel => exact ⟨(t297), (wrap64 (x4_1 + 1)), (by first | rfl | (simp; done) | (simp [*]; done)), H', ⟨by have := HK1.out; omega⟩, ⟨by (with_reducible repeat (first | apply Kd.V_alloc | apply Kd.V_drewN | apply Kd.V_drew)); exact Kd.V_mono HO_0.out (fun _ hk => ⟨hk.1.1, hk.2⟩)⟩, ⟨by (with_reducible repeat (first | apply Kd.N_alloc | apply Kd.N_drewN | apply Kd.N_drew)); exact HO299.out⟩, ⟨by repeat (first | (with_reducible first | exact HB.out | apply below_alloc | apply pw_below_drewN | apply below_drew1) | exact HB.out)⟩⟩
          · rw [if_neg c5] at H
            have c5b0 : decide (t295 < 0) = false := decide_eq_false c5
            clear c5
            have H' := Aside0.mk H
            clear H
            have p294 : 0 ≤ (x4_1 : Int) := of_decide_eq_true (by first | (with_reducible assumption) | assumption)
            have q294 : x4_1 < (l0.length : Int) := of_decide_eq_true (by first | (with_reducible assumption) | assumption)
            obtain ⟨ad294, A294_2, c294_2, e294, hx294_0, hx294_1, hx294_2, hx294_3, hl294_2, hi294_2⟩ := at_T34 (Kd.V_reads' HO_0.out).2.2 x4_1 p294 q294
            cases e294
            obtain ⟨ce294, hce294, hMe294, hcc294⟩ := Kd.V_get HO_0.out z34 x4_1 p294 (by first | exact q294 | exact of_decide_eq_true (by first | (with_reducible assumption) | assumption) | (have e_ := (Kd.V_reads' HO_0.out).1; omega))
            obtain ⟨ua294_2, uc294_2, rfl, ul294_2, ge294_2⟩ := k34_openF hMe294
            have hv294_2 := hcc294 2 _ rfl
            rw [add_field _ _ 2 (by omega)] at hv294_2
            replace hv294_2 := Option.some.inj (hv294_2.symm.trans hx294_2)
            injection hv294_2 with hva_ hvn_ hvc_
            rw [hva_] at ge294_2
            rw [hvc_] at ul294_2
            have HL294_2 := Aside0.mk (show Kd.V k36 36 _ w.heap.size _ _ ((rd_T34 l0 x4_1).f1) from Kd.V_mk ul294_2 ge294_2)
            clear hva_ hvn_ hvc_ ge294_2 ul294_2
            clear hcc294 hce294
            have HR294_2 := Aside0.mk hi294_2
            have HC294_2 := Aside0.mk hl294_2
            clear hi294_2 hl294_2
            replace p294 := eq_true p294
            replace q294 := eq_true q294
            obtain ⟨Ao10, co10, eo10⟩ := Kd.N_slice HO_3.out
            subst eo10
            go_wp2_with (first | ((with_reducible refine gate_callee (f := 20) rfl ?_); refine goesL_ (some 17) rfl rfl Try.func20 (by kernel_rfl) rfl #[.slice Ao10 x3_1.length co10, .agg #[.int .u64 ((rd_T34 l0 x4_1).f0.f0), .int .u32 ((rd_T34 l0 x4_1).f0.f1)]] rfl (by (try simp only [List.map_toArray, List.map_cons, List.map_nil]); first | done | rfl | (simp only [List.length_drop, List.length_take]; rfl)) ?_; (with_reducible refine (hayloftref10_Place.calls k1 _ _ x3_1 ((rd_T34 l0 x4_1).f0.f0) ((rd_T34 l0 x4_1).f0.f1) t295 _ ?side1 ?side2 A4.out).mono ?_); (case side1 => repeat (first | exact (Kd.N_reads' HO_3.out).2.2 | (with_reducible refine Kd.C_alloc ?_ _) | (with_reducible refine Kd.C_drewN ?_ _) | (with_reducible refine Kd.C_drew ?_))); (case side2 => exact (Kd.N_reads' HO_3.out).2.1); rintro e w11 ⟨rfl, hb⟩; refine ⟨_, rfl, ?_⟩; have n0_ := Aside0.mk (Kd.V_below (by (with_reducible repeat (first | apply Kd.V_alloc | apply Kd.V_drewN | apply Kd.V_drew)); exact HO_0.out) hb); have n1_ := Aside0.mk (Kd.N_below (by (with_reducible repeat (first | apply Kd.N_alloc | apply Kd.N_drewN | apply Kd.N_drew)); exact HO_3.out) hb); have n2_ := Aside0.mk (Kd.V_below (by (with_reducible repeat (first | apply Kd.V_alloc | apply Kd.V_drewN | apply Kd.V_drew)); exact HL294_2.out) hb); have n3_ := Aside0.mk (Kd.C_below (by repeat (first | (with_reducible exact HR294_2.out) | (with_reducible refine Kd.C_alloc ?_ _) | (with_reducible refine Kd.C_drewN ?_ _) | (with_reducible refine Kd.C_drew ?_) | exact HR294_2.out)) hb); have n4_ := Aside0.mk (below_step (by repeat (first | (with_reducible first | exact HB.out | apply below_alloc | apply pw_below_drewN | apply below_drew1) | exact HB.out)) hb); clear HO_0; clear HO_3; clear HL294_2; clear HR294_2; clear HB; have HO_0 := n0_; have HO_3 := n1_; have HL294_2 := n2_; have HR294_2 := n3_; have HB := n4_; clear n0_ n1_ n2_ n3_ n4_; (try clear hb); (try clear hb2); (try clear hk); (try clear hi)))
            go_roundg k1
            case measure => have := HK1.out; omega
            case rel => exact ⟨(x3_1), (wrap64 (x4_1 + 1)), (by first | rfl | (simp; done) | (simp [*]; done)), H', ⟨by have := HK1.out; omega⟩, ⟨by (with_reducible repeat (first | apply Kd.V_alloc | apply Kd.V_drewN | apply Kd.V_drew)); exact HO_0.out⟩, ⟨by (with_reducible repeat (first | apply Kd.N_alloc | apply Kd.N_drewN | apply Kd.N_drew)); exact HO_3.out⟩, ⟨by repeat (first | (with_reducible first | exact HB.out | apply below_alloc | apply pw_below_drewN | apply below_drew1) | exact HB.out)⟩⟩
        · rw [if_neg c3] at H
          exact absurd H (by simp)
      · rw [if_neg c2] at H
        have c2b0 : decide (x4_1 < (l0.length : Int)) = false := decide_eq_false c2
        clear c2
        obtain rfl := Option.some.inj H
        go_wp2
        go_ret
        exact ⟨_, by first | rfl | (simp [errW_none, errW_some] <;> rfl) | (simp [*, errW_none, errW_some] <;> rfl), by (with_reducible repeat (first | apply Kd.N_alloc | apply Kd.N_drewN | apply Kd.N_drew)); exact HO_3.out, by repeat (first | (with_reducible first | exact HB.out | apply below_alloc | apply pw_below_drewN | apply below_drew1) | exact HB.out)⟩

end Go.Proofs.Ytfepfpcilmaojaa.QV
/- What the reference keeps, as lists by rising names: Put, once, Merged: the plain facts. -/
namespace Go.Proofs.Ytfepfpcilmaojaa.QV
open Go.RowKit Go.Proofs.YtfepfpcilmaojaaW.PrintWords Go.Proofs.Ytfepfpcilmaojaa.Mp
set_option linter.unusedVariables false
set_option linter.unusedSimpArgs false
def ltB (a b : Nm) : Bool := decide (cmpNm a b < 0)
def neB (a b : Nm) : Bool := !decide (a = b)
def putR (d : Bool) : List Ver → Ver → List Ver
  | [], v => if d = true then [] else [v]
  | x :: xs, v => (if d = false ∧ ltB x.f0 v.f0 = false then [v] else []) ++ ((if neB x.f0 v.f0 = true then [x] else []) ++ putR (d || !ltB x.f0 v.f0) xs v)
theorem putR_mem (v : Ver) (x : Ver) : ∀ (L : List Ver) (d : Bool), x ∈ putR d L v ↔ (x ∈ L ∧ x.f0 ≠ v.f0) ∨ (d = false ∧ x = v) := by
  intro L
  induction L with
  | nil => intro d; cases d <;> simp [putR]
  | cons y ys ih =>
    intro d
    rw [putR, List.mem_append, List.mem_append, ih, List.mem_cons]
    have hne : x ∈ (if neB y.f0 v.f0 = true then [y] else []) ↔ (x = y ∧ x.f0 ≠ v.f0) := by
      unfold neB
      by_cases e : y.f0 = v.f0
      · simp [e]; rintro rfl; exact e
      · simp [e]; rintro rfl; exact e
    rw [hne]
    cases d <;> cases ltB y.f0 v.f0 <;> simp <;> (try grind)
theorem putR_len (v : Ver) : ∀ (L : List Ver) (d : Bool), (putR d L v).length ≤ L.length + 1
  | [], d => by cases d <;> simp [putR]
  | y :: ys, d => by
    have h1 := putR_len v ys (d || !ltB y.f0 v.f0)
    have h2 := putR_len' v ys
    rw [putR]
    generalize ltB y.f0 v.f0 = b at *
    cases d <;> cases b <;> cases neB y.f0 v.f0 <;> simp at h1 h2 ⊢ <;> omega
where putR_len' (v : Ver) : ∀ (L : List Ver), (putR true L v).length ≤ L.length
  | [] => by simp [putR]
  | y :: ys => by
    have h1 := putR_len' v ys
    unfold putR
    cases ltB y.f0 v.f0 <;> cases neB y.f0 v.f0 <;> simp at h1 ⊢ <;> omega
theorem cmpNm_tot {a b : Nm} (h : ¬ cmpNm a b < 0) (hne : a ≠ b) : cmpNm b a < 0 := by
  rw [cmpNm_neg] at *
  have : ¬ (a.f0 = b.f0 ∧ a.f1 = b.f1) := fun h => hne (Nm.ext' h.1 h.2)
  omega
theorem cmpNm_tr {a b c : Nm} (h : cmpNm a b < 0) (k : cmpNm b c < 0) : cmpNm a c < 0 := by
  rw [cmpNm_neg] at *; omega
def Srt (L : List Ver) : Prop := L.Pairwise (fun a b => cmpNm a.f0 b.f0 < 0)
theorem putR_srtT (v : Ver) : ∀ L, Srt L → Srt (putR true L v)
  | [], h => by simp [putR, Srt]
  | y :: ys, h => by
    obtain ⟨h1, h2⟩ := List.pairwise_cons.1 h
    have h3 := putR_srtT v ys h2
    unfold putR
    cases hn : neB y.f0 v.f0
    · simpa using h3
    · simp only [Bool.true_eq_false, false_and, if_false, if_true, List.append_eq, List.nil_append, List.cons_append, Bool.true_or]
      refine List.pairwise_cons.2 ⟨fun z hz => ?_, h3⟩
      rw [putR_mem] at hz
      rcases hz with hz | hz
      · exact h1 z hz.1
      · cases hz.1
theorem putR_srt (v : Ver) : ∀ L, Srt L → Srt (putR false L v)
  | [], h => by simp [putR, Srt]
  | y :: ys, h => by
    obtain ⟨h1, h2⟩ := List.pairwise_cons.1 h
    unfold putR
    cases hl : ltB y.f0 v.f0
    · have hl' : ¬ cmpNm y.f0 v.f0 < 0 := by simpa [ltB] using hl
      have h3 := putR_srtT v ys h2
      simp only [and_self, if_true, Bool.not_false, Bool.or_true]
      cases hn : neB y.f0 v.f0
      · have hn' : y.f0 = v.f0 := by simpa [neB] using hn
        simp only [Bool.false_eq_true, if_false, List.append_eq, List.nil_append, List.cons_append]
        refine List.pairwise_cons.2 ⟨fun z hz => ?_, h3⟩
        rw [putR_mem] at hz
        rcases hz with hz | hz
        · rw [← hn']; exact h1 z hz.1
        · cases hz.1
      · have hn' : y.f0 ≠ v.f0 := by simpa [neB] using hn
        have hv := cmpNm_tot hl' hn'
        simp only [if_true, List.append_eq, List.nil_append, List.cons_append]
        refine List.pairwise_cons.2 ⟨fun z hz => ?_, List.pairwise_cons.2 ⟨fun z hz => ?_, h3⟩⟩
        · rcases List.mem_cons.1 hz with rfl | hz
          · exact hv
          · rw [putR_mem] at hz
            rcases hz with hz | hz
            · exact cmpNm_tr hv (h1 z hz.1)
            · cases hz.1
        · rw [putR_mem] at hz
          rcases hz with hz | hz
          · exact h1 z hz.1
          · cases hz.1
    · have hl' : cmpNm y.f0 v.f0 < 0 := by simpa [ltB] using hl
      have h3 := putR_srt v ys h2
      have hn : neB y.f0 v.f0 = true := by
        unfold neB
        rw [Bool.not_eq_true', decide_eq_false_iff_not]
        intro e; rw [e, cmpNm_neg] at hl'; omega
      rw [hn]
      simp only [Bool.true_eq_false, and_false, if_false, if_true, List.append_eq, List.nil_append, List.cons_append, Bool.not_true, Bool.or_false]
      refine List.pairwise_cons.2 ⟨fun z hz => ?_, h3⟩
      rw [putR_mem] at hz
      rcases hz with hz | hz
      · exact h1 z hz.1
      · rw [hz.2]; exact hl'
/-- A function of names whose versions bear their names. -/
def Own (F : Nm → Option Ver) : Prop := ∀ k x, F k = some x → x.f0 = k
theorem Own.upd {F : Nm → Option Ver} (h : Own F) (v : Ver) : Own (updV F v.f0 (some v)) := fun k x e => by
  unfold updV at e
  split at e
  · rename_i hk; cases e; exact hk.symm
  · exact h k x e
theorem put_told {F : Nm → Option Ver} {L : List Ver} (h : IsTold F L) (hF : Own F) (v : Ver) (hv : Nok v.f0) : IsTold (updV F v.f0 (some v)) (putR false L v) := by
  refine ⟨putR_srt v L h.1, fun x hx => ?_, fun k hk hs => ?_⟩
  · rw [putR_mem] at hx
    rcases hx with ⟨h1, h2⟩ | ⟨_, rfl⟩
    · exact ⟨(h.2.1 x h1).1, by unfold updV; rw [if_neg h2]; exact (h.2.1 x h1).2⟩
    · exact ⟨hv, by unfold updV; rw [if_pos rfl]⟩
  · unfold updV at hs
    by_cases e : k = v.f0
    · exact ⟨v, (putR_mem v v L false).2 (.inr ⟨rfl, rfl⟩), e.symm⟩
    · rw [if_neg e] at hs
      obtain ⟨y, hy, hyk⟩ := h.2.2 k hk hs
      exact ⟨y, (putR_mem v y L false).2 (.inl ⟨hy, by rw [hyk]; exact e⟩), hyk⟩
theorem IsTold.has {F : Nm → Option Ver} {L : List Ver} (h : IsTold F L) (k : Nm) (hk : Nok k) : hasN L k = (F k).isSome := by
  rw [Bool.eq_iff_iff]
  constructor
  · intro hh
    unfold hasN at hh
    obtain ⟨x, hx, e⟩ := List.any_eq_true.1 hh
    have e' : x.f0 = k := by simpa using e
    rw [← e', (h.2.1 x hx).2]; rfl
  · intro hh
    obtain ⟨y, hy, e⟩ := h.2.2 k hk hh
    exact List.any_eq_true.2 ⟨y, hy, by simpa using e⟩
theorem IsTold.at_ {F : Nm → Option Ver} {L : List Ver} (h : IsTold F L) {x : Ver} (hx : x ∈ L) : F x.f0 = some x := (h.2.1 x hx).2
theorem IsTold.congr {F G : Nm → Option Ver} {L : List Ver} (h : IsTold F L) (e : ∀ k, Nok k → F k = G k) : IsTold G L :=
  ⟨h.1, fun x hx => ⟨(h.2.1 x hx).1, by rw [← e _ (h.2.1 x hx).1]; exact (h.2.1 x hx).2⟩, fun k hk hs => h.2.2 k hk (by rw [e k hk]; exact hs)⟩
def onceR : List Ver → List Ver → List Ver
  | out, [] => out
  | out, x :: xs => onceR (if hasN out x.f0 = true then out else putR false out x) xs
theorem once_told : ∀ (l out : List Ver) (F : Nm → Option Ver), IsTold F out → Own F → (∀ x ∈ l, Nok x.f0) → IsTold (fun k => (F k).or (firstOf l k)) (onceR out l)
  | [], out, F, h, hF, hN => h.congr (fun k _ => by simp [firstOf])
  | x :: xs, out, F, h, hF, hN => by
    have hx := hN x (List.mem_cons_self ..)
    have hxs : ∀ y ∈ xs, Nok y.f0 := fun y hy => hN y (List.mem_cons_of_mem _ hy)
    have hh := h.has x.f0 hx
    have hfo : ∀ k, firstOf (x :: xs) k = if x.f0 = k then some x else firstOf xs k := fun k => by
      unfold firstOf
      rw [List.find?_cons]
      by_cases e : x.f0 = k <;> simp [e]
    unfold onceR
    cases hs : (F x.f0).isSome
    · rw [hs] at hh
      rw [hh, if_neg (by simp)]
      refine (once_told xs _ _ (put_told h hF x hx) (hF.upd x) hxs).congr (fun k _ => ?_)
      have hnone : F x.f0 = none := by simpa using hs
      rw [hfo]
      unfold updV
      by_cases e : x.f0 = k
      · subst e; simp [hnone]
      · rw [if_neg (Ne.symm e), if_neg e]
    · rw [hs] at hh
      rw [hh, if_pos rfl]
      refine (once_told xs _ _ h hF hxs).congr (fun k _ => ?_)
      rw [hfo]
      by_cases e : x.f0 = k
      · subst e
        obtain ⟨y, hy⟩ := Option.isSome_iff_exists.1 hs
        simp [hy]
      · rw [if_neg e]
theorem once_is (l : List Ver) (h : ∀ x ∈ l, Nok x.f0) : IsTold (firstOf l) (onceR [] l) :=
  (once_told l [] (fun _ => none) ⟨List.Pairwise.nil, fun x hx => by simp at hx, fun k _ hs => by simp at hs⟩ (fun k x e => by cases e) h).congr (fun k _ => by simp)
theorem onceR_len : ∀ (l out : List Ver), (onceR out l).length ≤ out.length + l.length
  | [], out => by simp [onceR]
  | x :: xs, out => by
    unfold onceR
    have h1 := onceR_len xs (if hasN out x.f0 = true then out else putR false out x)
    have h2 := putR_len x out false
    split at h1 <;> rename_i hs
    · rw [if_pos hs]; simp only [List.length_cons]; omega
    · rw [if_neg hs]; simp only [List.length_cons]; omega
def mg : Option Ver → Option Ver → Option Ver
  | some x, some y => some (mergeV x y)
  | some x, none => some x
  | none, o => o
theorem mergedF_mg (l m : List Ver) (k : Nm) : mergedF l m k = mg (firstOf l k) (firstOf m k) := by
  unfold mergedF mg
  cases firstOf l k <;> cases firstOf m k <;> rfl
def mergR : List Ver → List Ver → List Ver
  | out, [] => out
  | out, y :: ys => mergR (match firstOf out y.f0 with | none => putR false out y | some x => if x.f2 = 0 then putR false out ⟨x.f0, x.f1, y.f2⟩ else out) ys
theorem IsTold.first {F : Nm → Option Ver} {L : List Ver} (h : IsTold F L) (hF : Own F) (k : Nm) (hk : Nok k) : firstOf L k = F k := by
  refine Option.ext fun x => ?_
  rw [first_iff L (told_one h)]
  constructor
  · rintro ⟨hx, rfl⟩; exact h.at_ hx
  · intro hx
    obtain ⟨y, hy, e⟩ := h.2.2 k hk (by rw [hx]; rfl)
    have := h.at_ hy
    rw [e, hx] at this
    cases this
    exact ⟨hy, e⟩
theorem merg_told : ∀ (ys out : List Ver) (F : Nm → Option Ver), IsTold F out → Own F → (∀ y ∈ ys, Nok y.f0) → ys.Pairwise (fun x y => x.f0 ≠ y.f0) → IsTold (fun k => mg (F k) (firstOf ys k)) (mergR out ys)
  | [], out, F, h, hF, hN, hd => h.congr (fun k _ => by simp [firstOf]; cases F k <;> rfl)
  | y :: ys, out, F, h, hF, hN, hd => by
    have hy := hN y (List.mem_cons_self ..)
    have hys : ∀ y ∈ ys, Nok y.f0 := fun y hy => hN y (List.mem_cons_of_mem _ hy)
    obtain ⟨hd1, hd2⟩ := List.pairwise_cons.1 hd
    have hno : firstOf ys y.f0 = none := by
      cases hc : firstOf ys y.f0 with
      | none => rfl
      | some z => exact absurd (firstOf_f0 ys _ z hc).symm (hd1 z (firstOf_mem ys _ z hc))
    have hfo : ∀ k, firstOf (y :: ys) k = if y.f0 = k then some y else firstOf ys k := fun k => by
      unfold firstOf
      rw [List.find?_cons]
      by_cases e : y.f0 = k <;> simp [e]
    have hfi := h.first hF y.f0 hy
    unfold mergR
    rw [hfi]
    have fin : ∀ v : Ver, v.f0 = y.f0 → mg (F y.f0) (some y) = some v → IsTold (fun k => mg (F k) (firstOf (y :: ys) k)) (mergR (putR false out v) ys) := fun v hv hm => by
      refine (merg_told ys _ _ (put_told h hF v (by rw [hv]; exact hy)) (hF.upd v) hys hd2).congr (fun k _ => ?_)
      rw [hfo]
      unfold updV
      rw [hv]
      by_cases e : y.f0 = k
      · subst e; simp only [if_true]; rw [hno, hm]; rfl
      · rw [if_neg (Ne.symm e), if_neg e]
    cases hc : F y.f0 with
    | none => exact fin y rfl (by rw [hc]; rfl)
    | some x =>
      have hx0 := hF _ _ hc
      by_cases h2 : x.f2 = 0
      · simp only [h2, if_true]
        exact fin ⟨x.f0, x.f1, y.f2⟩ hx0 (by rw [hc]; simp [mg, mergeV, h2])
      · simp only [h2, if_false]
        refine (merg_told ys _ _ h hF hys hd2).congr (fun k _ => ?_)
        rw [hfo]
        by_cases e : y.f0 = k
        · subst e; simp only [if_true]; rw [hno, hc]; simp [mg, mergeV, h2]
        · rw [if_neg e]
/-- The reference's Merged. -/
theorem mergedR_eq (l m : List Ver) (hl : ∀ x ∈ l, Nok x.f0) (hm : ∀ x ∈ m, Nok x.f0) : mergR (onceR [] l) (onceR [] m) = mergedL l m := by
  have h1 := once_is l hl
  have h2 := once_is m hm
  have hOl : Own (firstOf l) := fun k x e => firstOf_f0 l k x e
  have hOm : Own (firstOf m) := fun k x e => firstOf_f0 m k x e
  refine told_eq ((merg_told _ _ _ h1 hOl (fun y hy => (h2.2.1 y hy).1) (told_one h2)).congr (fun k hk => ?_)) (mergedL_is l m hl hm)
  rw [h2.first hOm k hk, mergedF_mg]
end Go.Proofs.Ytfepfpcilmaojaa.QV
/- The reference's Place, Put, once: what the printed functions tell. -/
namespace Go.Proofs.Ytfepfpcilmaojaa.QV
open Go.RowKit Go.Proofs.YtfepfpcilmaojaaW.PrintWords Go.Proofs.Ytfepfpcilmaojaa.Mp
set_option linter.unusedVariables false
set_option linter.unusedSimpArgs false
theorem less_f (a b : Nm) : hayloftref10_Less.f a.f0 a.f1 b.f0 b.f1 = some (ltB a b) := by
  unfold hayloftref10_Less.f ltB
  split
  · rename_i h
    congr 1
    rw [decide_eq_decide, cmpNm_neg]
    omega
  · rename_i h
    congr 1
    rw [decide_eq_decide, cmpNm_neg]
    omega
theorem neB_eq (a b : Nm) : (!(a.f0 == b.f0) || !(a.f1 == b.f1)) = neB a b := by
  unfold neB
  by_cases e : a = b
  · rw [e]; simp
  · have : ¬ (a.f0 = b.f0 ∧ a.f1 = b.f1) := fun h => e (Nm.ext' h.1 h.2)
    rw [decide_eq_false e]
    by_cases h0 : a.f0 = b.f0
    · have h1 : a.f1 ≠ b.f1 := fun h => this ⟨h0, h⟩
      simp [h0, h1]
    · simp [h0]
theorem ver_eta (x : Ver) : (⟨⟨x.f0.f0, x.f0.f1⟩, x.f1, x.f2⟩ : Ver) = x := rfl
theorem put_l0 (L : List Ver) (hl : L.length + 2 < 2932031007402) (v : Ver) : ∀ (n i : Nat) (d : Bool) (acc : List Ver), i + n = L.length → acc.length ≤ i + (if d = true then 1 else 0) →
    hayloftref10_Put.l0 (2 * n + 1) L acc d i v.f0.f0 v.f0.f1 v.f1 v.f2 = some (acc ++ putR d (L.drop i) v) := by
  intro n
  induction n with
  | zero =>
    intro i d acc hi ha
    rw [Nat.add_zero] at hi
    subst hi
    rw [hayloftref10_Put.l0, if_neg (by omega), List.drop_length]
    cases d
    · rw [if_neg (by simp), if_pos (by simp at ha; omega)]; simp [putR]
    · rw [if_pos rfl]; simp [putR]
  | succ n ih =>
    intro i d acc hi ha
    have hil : i < L.length := by omega
    have hw : wrap64 ((i : Int) + 1) = ((i + 1 : Nat) : Int) := by rw [wrap_succ i (by omega)]; rfl
    have hg : rd_T34 L (i : Int) = L[i] := by rw [rdVer, List.getD_eq_getElem?_getD, List.getElem?_eq_getElem hil]; rfl
    rw [show 2 * (n + 1) + 1 = (2 * n + 1 + 1) + 1 by omega, hayloftref10_Put.l0, if_pos (by omega), hg, List.drop_eq_getElem_cons hil, putR]
    generalize hx : L[i] = x at hg
    have e0 : (0 : Int) ≤ (i : Int) := Int.natCast_nonneg i
    have e1 : (i : Int) < (L.length : Int) := by omega
    cases d with
    | true =>
      simp only [if_true] at ha
      rw [if_pos rfl, hayloftref10_Put.j1, if_neg (by simp), if_pos e0, if_pos e1, hg, hw, neB_eq x.f0 v.f0]
      cases hn : neB x.f0 v.f0
      · rw [if_neg (by simp), ih (i + 1) true acc (by omega) (by simp only [if_true]; omega)]
        simp
      · rw [if_pos rfl, if_pos (by omega), ver_eta, ih (i + 1) true (acc ++ [x]) (by omega) (by simp; omega)]
        simp
    | false =>
      simp only [Bool.false_eq_true, if_false, Nat.add_zero] at ha
      rw [if_neg (by simp), if_pos e0, less_f x.f0 v.f0, Option.bind_some, hayloftref10_Put.j1]
      cases hlt : ltB x.f0 v.f0
      · rw [if_pos (show (!false) = true from rfl), if_pos (by omega), Option.bind_some, ver_eta, if_pos e0, if_pos e1, hg, hw, neB_eq x.f0 v.f0]
        cases hn : neB x.f0 v.f0
        · rw [if_neg (by simp), ih (i + 1) true (acc ++ [v]) (by omega) (by simp; omega)]
          simp
        · rw [if_pos rfl, if_pos (by simp; omega), ver_eta, ih (i + 1) true (acc ++ [v] ++ [x]) (by omega) (by simp; omega)]
          simp
      · rw [if_neg (show ¬ (!true) = true by decide), if_pos e0, if_pos e1, hg, hw, neB_eq x.f0 v.f0]
        cases hn : neB x.f0 v.f0
        · rw [if_neg (by simp), ih (i + 1) false acc (by omega) (by simp; omega)]
          simp
        · rw [if_pos rfl, if_pos (by omega), ver_eta, ih (i + 1) false (acc ++ [x]) (by omega) (by simp; omega)]
          simp
theorem put_f (L : List Ver) (hl : L.length + 2 < 2932031007402) (v : Ver) (m : Nat) (hm : 2 * L.length + 1 ≤ m) : hayloftref10_Put.f m L v.f0.f0 v.f0.f1 v.f1 v.f2 = some (putR false L v) := by
  refine lift' (f := fun m => hayloftref10_Put.f m L v.f0.f0 v.f0.f1 v.f1 v.f2) (fun m => hayloftref10_Put.mono _ _ _ _ _ m) (k := 2 * L.length + 1) ?_ hm
  show hayloftref10_Put.f _ _ _ _ _ _ = _
  unfold hayloftref10_Put.f
  have := put_l0 L hl v L.length 0 false [] (by omega) (Nat.zero_le _)
  rw [List.drop_zero, List.nil_append] at this
  exact this
/-- Place tells where the first of that name stands. -/
theorem placeg_l0 (l : List Ver) (hl : l.length < 9223372036854775807) (k : Nm) : ∀ (n i : Nat), i + n = l.length → ∃ p, hayloftref10_Place.l0 (n + 1) l i k.f0 k.f1 = some p ∧ (match firstOf (l.drop i) k with | none => p < 0 | some x => 0 ≤ p ∧ p < (l.length : Int) ∧ rd_T34 l p = x) := by
  intro n
  induction n with
  | zero =>
    intro i hi
    rw [Nat.add_zero] at hi
    subst hi
    rw [hayloftref10_Place.l0, if_neg (by omega), List.drop_length]
    exact ⟨-1, rfl, by simp [firstOf]⟩
  | succ n ih =>
    intro i hi
    have hil : i < l.length := by omega
    have hw : wrap64 ((i : Int) + 1) = ((i + 1 : Nat) : Int) := by rw [wrap_succ i (by omega)]; rfl
    have hg : rd_T34 l (i : Int) = l[i] := by rw [rdVer, List.getD_eq_getElem?_getD, List.getElem?_eq_getElem hil]; rfl
    rw [hayloftref10_Place.l0, if_pos (by omega), if_pos (Int.natCast_nonneg i), hw, List.drop_eq_getElem_cons hil]
    have hfo : firstOf (l[i] :: l.drop (i + 1)) k = if l[i].f0 = k then some l[i] else firstOf (l.drop (i + 1)) k := by
      unfold firstOf
      rw [List.find?_cons]
      by_cases e : l[i].f0 = k <;> simp [e]
    rw [hfo]
    have hd : ((rd_T34 l (i : Int)).f0.f0 == k.f0 && ((rd_T34 l (i : Int)).f0.f1 == k.f1)) = decide (l[i].f0 = k) := by
      rw [hg]
      by_cases e : l[i].f0 = k
      · rw [e]; simp
      · have : ¬ (l[i].f0.f0 = k.f0 ∧ l[i].f0.f1 = k.f1) := fun h => e (Nm.ext' h.1 h.2)
        simp only [e, decide_false]
        rw [Bool.and_eq_false_iff, beq_eq_false_iff_ne, beq_eq_false_iff_ne]
        omega
    rw [hd]
    by_cases he : l[i].f0 = k
    · rw [if_pos (by simpa using he), if_pos he]
      exact ⟨i, rfl, Int.natCast_nonneg i, by omega, hg⟩
    · rw [if_neg (by simpa using he), if_neg he]
      exact ih (i + 1) (by omega)
theorem placeg_f (l : List Ver) (hl : l.length < 9223372036854775807) (k : Nm) (m : Nat) (hm : l.length + 1 ≤ m) : ∃ p, hayloftref10_Place.f m l k.f0 k.f1 = some p ∧ (match firstOf l k with | none => p < 0 | some x => 0 ≤ p ∧ p < (l.length : Int) ∧ rd_T34 l p = x) := by
  obtain ⟨p, h1, h2⟩ := placeg_l0 l hl k l.length 0 (by omega)
  rw [List.drop_zero] at h2
  exact ⟨p, lift' (f := fun m => hayloftref10_Place.f m l k.f0 k.f1) (fun m => hayloftref10_Place.mono _ _ _ m) (k := l.length + 1) h1 hm, h2⟩
theorem once_l0 (l : List Ver) (hl : l.length + 3 < 2932031007402) (F : Nat) (hF : 2 * l.length + 1 ≤ F) : ∀ (n i : Nat) (out : List Ver), i + n = l.length → out.length ≤ i → hayloftref18_once.l0 (F + n + 1) l out i = some (onceR out (l.drop i)) := by
  intro n
  induction n with
  | zero =>
    intro i out hi ho
    rw [Nat.add_zero] at hi
    subst hi
    rw [hayloftref18_once.l0, if_neg (by omega), List.drop_length]
    rfl
  | succ n ih =>
    intro i out hi ho
    have hil : i < l.length := by omega
    have hw : wrap64 ((i : Int) + 1) = ((i + 1 : Nat) : Int) := by rw [wrap_succ i (by omega)]; rfl
    have hg : rd_T34 l (i : Int) = l[i] := by rw [rdVer, List.getD_eq_getElem?_getD, List.getElem?_eq_getElem hil]; rfl
    rw [hayloftref18_once.l0, if_pos (by omega), if_pos (Int.natCast_nonneg i), hg, List.drop_eq_getElem_cons hil, onceR]
    generalize l[i] = x
    obtain ⟨p, hp, hpp⟩ := place_f out (by omega) x.f0 (F + (n + 1)) (by omega)
    rw [hp, Option.bind_some, hw]
    cases hn : hasN out x.f0
    · have hp0 := hpp.2 hn
      rw [if_pos hp0, put_f out (by omega) x _ (by omega), Option.bind_some, if_neg (by simp)]
      exact ih (i + 1) _ (by omega) (by have := putR_len x out false; omega)
    · have hp0 : ¬ p < 0 := fun h => by rw [hpp.1 h] at hn; cases hn
      rw [if_neg hp0, if_pos rfl]
      exact ih (i + 1) _ (by omega) (by omega)
theorem once_f (l : List Ver) (hl : l.length + 3 < 2932031007402) (m : Nat) (hm : 3 * l.length + 2 ≤ m) : hayloftref18_once.f m l = some (onceR [] l) := by
  refine lift' (f := fun m => hayloftref18_once.f m l) (fun m => hayloftref18_once.mono _ m) (k := 3 * l.length + 2) ?_ hm
  show hayloftref18_once.f _ _ = _
  unfold hayloftref18_once.f
  have := once_l0 l hl (2 * l.length + 1) (Nat.le_refl _) l.length 0 [] (by omega) (Nat.le_refl _)
  rw [List.drop_zero] at this
  rw [show 3 * l.length + 2 = 2 * l.length + 1 + l.length + 1 by omega]
  exact this
end Go.Proofs.Ytfepfpcilmaojaa.QV
/- ref18.Upto, ref18.Changes, ref18.Merged: walked by hand. -/
namespace Go.Proofs.Ytfepfpcilmaojaa.QV
open Go.RowKit Go.Proofs.YtfepfpcilmaojaaW.PrintWords Go.Proofs.Ytfepfpcilmaojaa.Mp Go.Proofs.Ytfepfpcilmaojaa.SeqW
set_option linter.unusedVariables false
set_option linter.unusedSimpArgs false
set_option maxRecDepth 100000
theorem vOf {w : World} {A : Option Addr} {l : List Ver} {c : Nat} (hr : kVer.C w A l.length l) (hc : l.length ≤ c) : Kd.V kVer tVer w w.heap.size (fun _ => True) (.slice A l.length c) l :=
  Kd.V_mk hc (fun W' hW => k34_heap.C (fun k hk => hW k trivial hk) hr)
theorem vOfS {w : World} {A : Option Addr} {l : List Val} {c : Nat} (hr : kS.C w A l.length l) (hc : l.length ≤ c) : Kd.V kS tS w w.heap.size (fun _ => True) (.slice A l.length c) l :=
  Kd.V_mk hc (fun W' hW => k36_heap.C (fun k hk => hW k trivial hk) hr)
set_option maxHeartbeats 8000000 in
theorem refMerged_any (A0 : Option Addr) (c0 : Nat) (l : List Ver) (A1 : Option Addr) (c1 : Nat) (m : List Ver) (w : World) (hr0 : kVer.C w A0 l.length l) (hc0 : l.length ≤ c0) (hr1 : kVer.C w A1 m.length m) (hc1 : m.length ≤ c1)
    (kl : ∀ x ∈ l, Nok x.f0) (km : ∀ x ∈ m, Nok x.f0) (ll : l.length ≤ 1048576) (lm : m.length ≤ 1048576) :
    Calls Try.prog 18 #[.slice A0 l.length c0, .slice A1 m.length c1] w fun e w' => ∃ A c, e = .returned (.slice A (mergedL l m).length c) ∧ (mergedL l m).length ≤ c ∧ kVer.C w' A (mergedL l m).length (mergedL l m) ∧ Below w.heap.size w w' := by
  have hE := mergedR_eq l m kl km
  have hO := onceR_len l []
  have hP := onceR_len m []
  have hF := once_f l (by omega) _ (Nat.le_refl _)
  have hG := once_f m (by omega) _ (Nat.le_refl _)
  simp only [List.length_nil, Nat.zero_add] at hO hP
  generalize mergedL l m = U at hE ⊢
  generalize onceR [] l = O at hE hO hF
  generalize onceR [] m = add at hE hP hG
  go_enter Try.func18, Try.ntmps18
  go_wp2_with fail
  refine (hayloftref18_once.calls _ (fun _ => True) A0 c0 l O w (vOf hr0 hc0) hF).mono ?_
  rintro e W1 ⟨v1, rfl, hN1, hB1⟩
  obtain ⟨AO, cO, rfl⟩ := Kd.N_slice hN1
  have hCO := (Kd.N_reads' hN1).2.2
  have hcO := (Kd.N_reads' hN1).2.1
  clear hN1
  go_wp2_with fail
  refine (hayloftref18_once.calls _ (fun _ => True) A1 c1 m add W1 (vOf (Kd.C_below hr1 hB1) hc1) hG).mono ?_
  rintro e W2 ⟨v2, rfl, hN2, hb2⟩
  obtain ⟨Ad, cd, rfl⟩ := Kd.N_slice hN2
  have hCd := (Kd.N_reads' hN2).2.2
  have hcd := (Kd.N_reads' hN2).2.1
  clear hN2
  replace hCO := Kd.C_below hCO hb2
  have HB2 := btr' hB1 hb2
  go_wp2_with fail
  go_loopw [5, 7] (fun v i wr => ∃ k : Nat, k ≤ add.length ∧ i = .int .i64 k ∧ ∃ A c fs, v = .slice A (fs : List Ver).length c ∧ fs.length ≤ c ∧ kVer.C wr A fs.length fs ∧ Hid (mergR fs (add.drop k) = U) ∧ fs.length + (add.length - k) ≤ 2097152 ∧ Below W2.heap.size W2 wr) (fun _ i _ => add.length - (intOf i).toNat)
  case atStart => exact ⟨0, Nat.zero_le _, rfl, AO, cO, O, rfl, hcO, hCO, Lib.hid (by rw [List.drop_zero]; exact hE), by omega, Below.refl _ _⟩
  case round =>
    obtain ⟨k, hk, rfl, Af, cf, fs, rfl, hcf, hCf, hHE, hlen, hB⟩ := hrel
    by_cases hlt : k < add.length
    · obtain ⟨ad, e, q0, q1, Ax, cx, q2, hlx, hCx, q3⟩ := ver_at hCd k hlt
      replace q0 := pw_cell_below hB q0
      replace q1 := pw_cell_below hB q1
      replace q2 := pw_cell_below hB q2
      replace q3 := pw_cell_below hB q3
      replace hCx := Kd.C_below hCx hB
      subst e
      have hdr : add.drop k = add.getD k z34 :: add.drop (k + 1) := by
        rw [List.drop_eq_getElem_cons hlt, List.getD_eq_getElem?_getD, List.getElem?_eq_getElem hlt]; rfl
      generalize add.getD k z34 = y at q0 q1 q2 q3 hlx hCx hdr
      have hE' := hHE.out
      clear hHE
      rw [hdr, mergR] at hE'
      clear hdr
      obtain ⟨p, hp, hpp⟩ := placeg_f fs (by omega) y.f0 (fs.length + 1) (Nat.le_refl _)
      go_wp2_with fail
      refine (hayloftref10_Place.calls (fs.length + 1) Af cf fs y.f0.f0 y.f0.f1 p _ hCf hcf hp).mono ?_
      rintro e w3 ⟨rfl, hb3⟩
      replace q0 := pw_cell_below hb3 q0
      replace q1 := pw_cell_below hb3 q1
      replace q2 := pw_cell_below hb3 q2
      replace q3 := pw_cell_below hb3 q3
      replace hCx := Kd.C_below hCx hb3
      replace hCf := Kd.C_below hCf hb3
      replace hB := btr' hB hb3
      clear hp
      cases hn : firstOf fs y.f0 with
      | none =>
        rw [hn] at hpp hE'
        have hpn : decide (p < 0) = true := decide_eq_true hpp
        have hpl := putR_len y fs false
        have hpf := put_f fs (by omega) y (2 * fs.length + 1) (Nat.le_refl _)
        simp only at hE'
        generalize putR false fs y = gs at hE' hpl hpf
        have HE := Lib.hid hE'
        clear hE' hn
        go_wp2_with fail
        refine (hayloftref10_Put.calls _ (fun _ => True) Af cf fs y.f0.f0 y.f0.f1 (fun _ => True) Ax cx y.f1 y.f2 gs w3 (vOf hCf hcf) (vOfS hCx hlx) hpf).mono ?_
        rintro e w4 ⟨v4, rfl, hN4, hb4⟩
        obtain ⟨A4, c4, rfl⟩ := Kd.N_slice hN4
        go_wp2_with fail
        go_roundw
        case rel => exact ⟨k + 1, by omega, by go_num, A4, c4, gs, rfl, (Kd.N_reads' hN4).2.1, (Kd.N_reads' hN4).2.2, HE, by omega, btr' hB hb4⟩
        case measure => simp [intOf]; omega
      | some x =>
        rw [hn] at hpp hE'
        obtain ⟨r0, r1, r2⟩ := hpp
        obtain ⟨q, rfl⟩ : ∃ q : Nat, p = q := ⟨p.toNat, by omega⟩
        have hql : q < fs.length := by omega
        obtain ⟨af, e, p0, p1, Az, cz, p2, hlz, hCz, p3⟩ := ver_at hCf q hql
        have r2' : fs.getD q z34 = x := r2
        rw [r2'] at p0 p1 p2 hlz hCz p3
        subst e
        clear r2 r2' hn
        by_cases h2 : x.f2 = 0
        · simp only [h2, if_true] at hE'
          have hpl := putR_len ⟨x.f0, x.f1, y.f2⟩ fs false
          have hpf := put_f fs (by omega) ⟨x.f0, x.f1, y.f2⟩ (2 * fs.length + 1) (Nat.le_refl _)
          simp only at hpf
          generalize putR false fs ⟨x.f0, x.f1, y.f2⟩ = gs at hE' hpl hpf
          have HE := Lib.hid hE'
          clear hE'
          rw [h2] at p3
          clear h2
          have q3' := pw_cell_below (below_alloc (Below.refl _ w3) (.cells #[.int .u64 x.f0.f0, .int .u32 x.f0.f1, .slice Az x.f1.length cz, .int .u64 0] tVer)) q3
          go_wp2_with fail
          refine (hayloftref10_Put.calls _ (fun _ => True) (some af) cf fs x.f0.f0 x.f0.f1 (fun _ => True) Az cz x.f1 y.f2 gs _ (vOf (Kd.C_below hCf (by repeat (first | exact Below.refl _ _ | apply Below.setCell _ (by simp) | apply below_alloc))) hcf) (vOfS (Kd.C_below hCz (by repeat (first | exact Below.refl _ _ | apply Below.setCell _ (by simp) | apply below_alloc))) hlz) hpf).mono ?_
          rintro e w4 ⟨v4, rfl, hN4, hb4⟩
          obtain ⟨A4, c4, rfl⟩ := Kd.N_slice hN4
          go_wp2_with fail
          go_roundw
          case rel => exact ⟨k + 1, by omega, by go_num, A4, c4, gs, rfl, (Kd.N_reads' hN4).2.1, (Kd.N_reads' hN4).2.2, HE, by omega, btr' (btr' hB (by repeat (first | exact Below.refl _ _ | apply Below.setCell _ (by simp) | apply below_alloc))) hb4⟩
          case measure => simp [intOf]; omega
        · simp only [h2, if_false] at hE'
          have HE := Lib.hid hE'
          clear hE'
          have h2' : (x.f2 == 0) = false := beq_eq_false_iff_ne.2 h2
          go_wp2_with fail
          go_roundw
          case rel => exact ⟨k + 1, by omega, by go_num, some af, cf, fs, rfl, hcf, hCf, HE, by omega, hB⟩
          case measure => simp [intOf]; omega
    · obtain rfl : k = add.length := by omega
      have hE' := hHE.out
      rw [List.drop_length, mergR] at hE'
      subst hE'
      go_wp2_with fail
      go_ret
      exact ⟨_, _, rfl, hcf, hCf, btr' HB2 hB⟩
end Go.Proofs.Ytfepfpcilmaojaa.QV
/- Rows of one's own that are written over: what stays. -/
namespace Go.Proofs.Ytfepfpcilmaojaa.QV
open Go.RowKit Go.Proofs.YtfepfpcilmaojaaW.PrintWords Go.Proofs.Ytfepfpcilmaojaa.Mp Go.Proofs.Ytfepfpcilmaojaa.SeqW
set_option linter.unusedVariables false
set_option linter.unusedSimpArgs false
set_option maxRecDepth 100000
/-- Block g holds a row of n values at least, that may be written. -/
def Pg (g n : Nat) (W : World) : Prop := ∃ cur, W.heap[g]? = some (.cells cur tS (0, 0)) ∧ 4 * n ≤ cur.size
theorem Pg.set {g n : Nat} {W : World} (h : Pg g n W) (y j : Nat) (u : Value) : Pg g n (W.setCell ⟨y, j, none⟩ u) := by
  obtain ⟨cur, h1, h2⟩ := h
  by_cases e : g = y
  · subst e
    exact ⟨_, blk_set h1 j u, by simpa using h2⟩
  · exact ⟨cur, (Below.heap_setCell W ⟨y, j, none⟩ u g e).trans h1, h2⟩
/-- W is W0 but for what was written into blocks of M; rows are rows still. -/
structure SpI (M : Nat → Prop) (W0 W : World) : Prop where
  os : W.os = W0.os
  tape : W.tape = W0.tape
  output : W.output = W0.output
  size : W.heap.size = W0.heap.size
  block : ∀ i, ¬ M i → W.heap[i]? = W0.heap[i]?
  row : ∀ g n, Pg g n W0 → Pg g n W
theorem SpI.refl (M : Nat → Prop) (W : World) : SpI M W W := ⟨rfl, rfl, rfl, rfl, fun _ _ => rfl, fun _ _ h => h⟩
theorem SpI.set {M : Nat → Prop} {W0 W : World} (h : SpI M W0 W) {y : Nat} (hy : M y) (j : Nat) (u : Value) : SpI M W0 (W.setCell ⟨y, j, none⟩ u) :=
  ⟨h.os, h.tape, h.output, by rw [World.size_setCell]; exact h.size, fun i hi => (Below.heap_setCell W ⟨y, j, none⟩ u i (fun e => hi (by rw [e]; exact hy))).trans (h.block i hi), fun g n hp => (h.row g n hp).set y j u⟩
theorem SpI.below {M : Nat → Prop} {W0 W : World} {b : Nat} (h : SpI M W0 W) (hM : ∀ i, M i → b ≤ i) : Below b W0 W :=
  ⟨h.os, h.tape, h.output, Nat.le_of_eq h.size.symm, fun i hi => h.block i (fun k => by have := hM i k; omega)⟩
theorem SpI.cell {M : Nat → Prop} {W0 W : World} (h : SpI M W0 W) {g j : Nat} (hg : ¬ M g) {u : Value} (hc : W0.cell? ⟨g, j, none⟩ = some u) : W.cell? ⟨g, j, none⟩ = some u := by
  rw [← hc]
  have := h.block g hg
  simp only [World.cell?, this]
/-- A version's row in a list of one's own. -/
theorem spoil_row {W : World} {base : Nat} {ok : Nat → Prop} {A : Option Addr} {c : Nat} {L : List Ver} (hS : Kd.S kVer tVer W base ok (.slice A L.length c) L) (i : Nat) (hi : i < L.length) :
    ∃ g Ax cx, A = some ⟨g, 0, none⟩ ∧ W.cell? ⟨g, i * 4 + 2, none⟩ = some (.slice Ax (L.getD i z34).f1.length cx) ∧ (L.getD i z34).f1.length ≤ 9223372036854775807 ∧
      (0 < (L.getD i z34).f1.length → ∃ gx, Ax = some ⟨gx, 0, none⟩ ∧ base ≤ gx ∧ ok gx ∧ gx ≠ g ∧ Pg gx (L.getD i z34).f1.length W) := by
  obtain ⟨g, cap, e, _⟩ := Kd.S_form hS (by omega)
  injection e with e1 e2 e3
  subst e1
  obtain ⟨cs, hcl, hM, hcc⟩ := Kd.S_get hS z34 (i : Int) (by omega) (by omega)
  rw [Int.toNat_natCast] at hM hcc
  obtain ⟨v2, rfl, hR⟩ := k34_openM hM
  have hsz : kVer.sz = 4 := rfl
  have hc2 := hcc 2 v2 rfl
  rw [hsz] at hc2
  obtain ⟨Ax, cx, rfl, hle, hC⟩ := Kd.R_reads hR
  refine ⟨g, Ax, cx, rfl, by simpa [Addr.add] using hc2, by have := hC.2.1; unfold maxLen at this; omega, fun hpos => ?_⟩
  obtain ⟨inner, hown⟩ := Kd.R_own hR
  rcases hown.2 with ⟨hv, h0⟩ | ⟨gg, cp, cur, hv, hgb, hh, h1, h2, h3, h4⟩
  · injection hv with _ hv _; omega
  · injection hv with hv1 hv2 hv3
    subst hv1
    have hok := hR.1 gg rfl
    have hsz4 : kS.sz = 4 := rfl
    exact ⟨gg, rfl, hgb, hok.1, fun e => hok.2 (by rw [e]; rfl), cur, hh, by rw [h3, hsz4]; omega⟩
end Go.Proofs.Ytfepfpcilmaojaa.QV
/- RecoverAgain: the plain law. -/
namespace Go.Proofs.Ytfepfpcilmaojaa.QV
open Go.RowKit Go.Proofs.YtfepfpcilmaojaaW.PrintWords Go.Proofs.Ytfepfpcilmaojaa.Mp Go.Proofs.Ytfepfpcilmaojaa.SeqW
set_option linter.unusedVariables false
set_option linter.unusedSimpArgs false
end Go.Proofs.Ytfepfpcilmaojaa.QV
/- RecoverAgain: the walk. -/
namespace Go.Proofs.Ytfepfpcilmaojaa.QV
open Go.RowKit Go.Proofs.YtfepfpcilmaojaaW.PrintWords Go.Proofs.Ytfepfpcilmaojaa.Mp Go.Proofs.Ytfepfpcilmaojaa.SeqW
set_option linter.unusedVariables false
set_option linter.unusedSimpArgs false
set_option maxRecDepth 100000
attribute [local go_sem high] eqA31
theorem okV_mergedL (l m : List Ver) (hl : okV l = true) (hm : okV m = true) (hb : (l.length + m.length) * 48 ≤ 140737488355328) : okV (mergedL l m) = true ∧ (mergedL l m).length ≤ l.length + m.length := by
  obtain ⟨h1, h2, h3⟩ := (okV_iff l).1 hl
  obtain ⟨g1, g2, g3⟩ := (okV_iff m).1 hm
  have hI := mergedL_is l m h1 g1
  have hlen : (mergedL l m).length ≤ l.length + m.length := by
    have := toldL_len (mergedF l m) (l.map (·.f0) ++ m.map (·.f0))
    have h4 := nmsL_len (l.map (·.f0) ++ m.map (·.f0))
    rw [List.length_append, List.length_map, List.length_map] at h4
    exact Nat.le_trans this h4
  refine ⟨(okV_iff _).2 ⟨fun x hx => (hI.2.1 x hx).1, told_row hI fun k x hx => ?_, by omega⟩, hlen⟩
  obtain ⟨y, hy, e⟩ := mergedF_f1 l m k x hx
  rw [e]; exact hy.elim (h2 y) (g2 y)
theorem mergedU_f (l m : List Ver) (hl : okV l = true) (hm : okV m = true) (hb : (l.length + m.length) * 48 ≤ 140737488355328) : recover_Merged.f l m = some (mergedL l m) := by
  have h4 := nmsL_len (l.map (·.f0) ++ m.map (·.f0))
  rw [List.length_append, List.length_map, List.length_map] at h4
  unfold recover_Merged.f
  rw [if_pos ⟨hl, hm, by omega⟩]
end Go.Proofs.Ytfepfpcilmaojaa.QV
/- RecoverMerges: the walk. -/
namespace Go.Proofs.Ytfepfpcilmaojaa.QV
open Go.RowKit Go.Proofs.YtfepfpcilmaojaaW.PrintWords Go.Proofs.Ytfepfpcilmaojaa.Mp Go.Proofs.Ytfepfpcilmaojaa.SeqW
set_option linter.unusedVariables false
set_option linter.unusedSimpArgs false
set_option maxRecDepth 100000
set_option maxHeartbeats 8000000 in
theorem walkMerges (A0 : Option Addr) (c0 : Nat) (h : List Ver) (A1 : Option Addr) (c1 : Nat) (m : List Ver) (w : World) (hr0 : kVer.C w A0 h.length h) (hc0 : h.length ≤ c0) (hr1 : kVer.C w A1 m.length m) (hc1 : m.length ≤ c1)
    (L : List Ver) (hLl : L.length < 4194304) (hM : recover_Merged.f h m = some L) (hE : mergedL h m = L) (kL : Nat) (hS : hayloftref10_SameAll.f kL L L = some true) (ka : Nat) (hSa : hayloftref10_SameAll.f ka h h = some true) (kb : Nat) (hSb : hayloftref10_SameAll.f kb m m = some true)
    (hh : h.length ≤ 1048576) (hm : m.length ≤ 1048576) (hhr : ∀ x ∈ h, x.f1.length * 40 ≤ 140737488355328) (hmr : ∀ x ∈ m, x.f1.length * 40 ≤ 140737488355328) (nh : ∀ x ∈ h, Nok x.f0) (nm : ∀ x ∈ m, Nok x.f0) :
    Calls Try.prog 4 #[.slice A0 h.length c0, .slice A1 m.length c1] w fun e w' => e = .returned (.bool true) ∧ Below w.heap.size w w' := by
  have al := alive18
  have rM := fun W (hr0 : kVer.C W A0 h.length h) (hr1 : kVer.C W A1 m.length m) => hE ▸ refMerged_any A0 c0 h A1 c1 m W hr0 hc0 hr1 hc1 nh nm hh hm
  clear hE
  go_enter Try.func4, Try.ntmps4
  go_wp2_with fail
  refine (copied_any A0 h c0 w hr0 hc0 (by omega) hhr).mono ?_
  rintro e w1 ⟨va, rfl, hsa, HB1⟩
  obtain ⟨Aa, ca, rfl, hla, hCa⟩ := Kd.S_reads hsa
  go_wp2_with fail
  refine (copied_any A1 m c1 w1 (Kd.C_below hr1 HB1) hc1 (by omega) hmr).mono ?_
  rintro e w2 ⟨vb, rfl, hsb, hb2⟩
  obtain ⟨Ab, cb, rfl, hlb, hCb⟩ := Kd.S_reads hsb
  have HB2 := btr' HB1 hb2
  replace hCa := Kd.C_below hCa hb2
  go_wp2_with fail
  refine (recover_Merged.calls Aa ca h Ab cb m L w2 hCa hla hCb hlb hM).mono ?_
  rintro e w3 ⟨vl, rfl, hs3, hb3⟩
  obtain ⟨Al, cl, rfl, hll, hCl⟩ := Kd.S_reads hs3
  have HB3 := btr' HB2 hb3
  go_wp2_with fail
  refine (hayloftlaw18_alive.calls true _ al).mono ?_
  rintro e w4 ⟨rfl, hb4⟩
  have HB4 := btr' HB3 hb4
  go_wp2_with fail
  refine (rM w4 (Kd.C_below hr0 HB4) (Kd.C_below hr1 HB4)).mono ?_
  rintro e w5 ⟨A5, c5, rfl, hl5, hC5, hb5⟩
  have HB5 := btr' HB4 hb5
  have hb35 := btr' hb4 hb5
  go_wp2_with fail
  refine (hayloftref10_SameAll.calls kL Al cl L A5 c5 L true w5 (Kd.C_below hCl hb35) hll hC5 hl5 hS).mono ?_
  rintro e w6 ⟨rfl, hb6⟩
  have HB6 := btr' HB5 hb6
  have hS6 := Kd.S_below hs3 (btr' hb35 hb6)
  have hb26 : Below w2.heap.size w2 w6 := btr' hb3 (btr' hb35 hb6)
  clear hC5 hl5 hb35 hb5 hb6 hb4 hs3 hCl
  go_wp2_with fail
  go_loopw [28] (fun i wr => ∃ k : Nat, k ≤ L.length ∧ i = .int .i64 k ∧ SpI (fun j => w2.heap.size ≤ j ∧ some j ≠ (Value.slice Al L.length cl).ownBlock) w6 wr) (fun i _ => L.length - (intOf i).toNat)
  case atStart => exact ⟨0, Nat.zero_le _, rfl, SpI.refl _ _⟩
  case round =>
    obtain ⟨k, hk, rfl, hsp⟩ := hrel
    by_cases hlt : k < L.length
    · obtain ⟨g, Ax, cx, rfl, q2, hxl, hrow⟩ := spoil_row hS6 k hlt
      have hgM : ¬ (w2.heap.size ≤ g ∧ some g ≠ (Value.slice (some ⟨g, 0, none⟩) L.length cl).ownBlock) := fun h => h.2 rfl
      have p2 := hsp.cell hgM q2
      generalize (L.getD k z34).f1.length = n at q2 p2 hxl hrow
      go_wp2_with fail
      go_loopw [37] (fun i wq => ∃ j : Nat, j ≤ n ∧ i = .int .i64 j ∧ SpI (fun j => w2.heap.size ≤ j ∧ some j ≠ (Value.slice (some ⟨g, 0, none⟩) L.length cl).ownBlock) w6 wq) (fun i _ => n - (intOf i).toNat)
      case atStart => exact ⟨0, Nat.zero_le _, rfl, hsp⟩
      case round =>
        obtain ⟨j, hj, rfl, hsq⟩ := hrel
        by_cases hjt : j < n
        · obtain ⟨gx, rfl, hgx, _, hne, hP⟩ := hrow (by omega)
          have hMx : w2.heap.size ≤ gx ∧ some gx ≠ (Value.slice (some ⟨g, 0, none⟩) L.length cl).ownBlock := ⟨hgx, fun e => hne (by injection e)⟩
          obtain ⟨cur, hcur, hcs⟩ := hsq.row gx n hP
          clear p2
          have p2 := hsq.cell hgM q2
          obtain ⟨u0, e0⟩ : ∃ u, wr.cell? ⟨gx, j * 4, none⟩ = some u := ⟨_, (blk_cell hcur _).trans (Array.getElem?_eq_getElem (by omega))⟩
          obtain ⟨u1, e1⟩ : ∃ u, wr.cell? ⟨gx, j * 4 + 1, none⟩ = some u := ⟨_, (blk_cell hcur _).trans (Array.getElem?_eq_getElem (by omega))⟩
          obtain ⟨u2, e2⟩ : ∃ u, wr.cell? ⟨gx, j * 4 + 2, none⟩ = some u := ⟨_, (blk_cell hcur _).trans (Array.getElem?_eq_getElem (by omega))⟩
          obtain ⟨u3, e3⟩ : ∃ u, wr.cell? ⟨gx, j * 4 + 3, none⟩ = some u := ⟨_, (blk_cell hcur _).trans (Array.getElem?_eq_getElem (by omega))⟩
          have f0 := blk_frozen hcur (j * 4)
          have f1 := blk_frozen hcur (j * 4 + 1)
          have f2 := blk_frozen hcur (j * 4 + 2)
          have f3 := blk_frozen hcur (j * 4 + 3)
          go_wp2_with fail
          go_roundw
          case rel => exact ⟨j + 1, by omega, by go_num, (((hsq.set hMx _ _).set hMx _ _).set hMx _ _).set hMx _ _⟩
          case measure => simp [intOf]; omega
        · obtain rfl : j = n := by omega
          go_wp2_with fail
          go_roundw
          case rel => exact ⟨k + 1, by omega, by go_num, hsq⟩
          case measure => simp [intOf]; omega
    · obtain rfl : k = L.length := by omega
      have hbl : Below w2.heap.size w6 wr := hsp.below (fun _ h => h.1)
      have hb2r : Below w2.heap.size w2 wr := hb26.trans hbl
      have HR : Below w.heap.size w wr := HB6.trans (hbl.mono HB2.size)
      go_wp2_with fail
      refine (hayloftref10_SameAll.calls ka Aa ca h A0 c0 h true wr (Kd.C_below hCa hb2r) hla (Kd.C_below hr0 HR) hc0 hSa).mono ?_
      rintro e w7 ⟨rfl, hb7⟩
      go_wp2_with fail
      refine (hayloftref10_SameAll.calls kb Ab cb m A1 c1 m true w7 (Kd.C_below hCb (btr' hb2r hb7)) hlb (Kd.C_below hr1 (btr' HR hb7)) hc1 hSb).mono ?_
      rintro e w8 ⟨rfl, hb8⟩
      go_wp2_with fail
      go_ret
      exact ⟨rfl, btr' HR (btr' hb7 hb8)⟩
theorem merges (A0 : Option Addr) (c0 : Nat) (h : List Ver) (A1 : Option Addr) (c1 : Nat) (m : List Ver) (w : World) (hr0 : kVer.C w A0 h.length h) (hc0 : h.length ≤ c0) (hr1 : kVer.C w A1 m.length m) (hc1 : m.length ≤ c1)
    (kh : okV h = true) (km : okV m = true) (lh : h.length ≤ 1048576) (lm : m.length ≤ 1048576) :
    Calls Try.prog 4 #[.slice A0 h.length c0, .slice A1 m.length c1] w fun e w' => e = .returned (.bool true) ∧ Below w.heap.size w w' := by
  obtain ⟨g1, g2, g3⟩ := (okV_iff h).1 kh
  obtain ⟨m1, m2, m3⟩ := (okV_iff m).1 km
  obtain ⟨k1, l1⟩ := okV_mergedL h m kh km (by omega)
  have sm : ∀ L, okV L = true → L.length ≤ 3145728 → ∃ K, hayloftref10_SameAll.f K L L = some true := fun L kL lL => by
    obtain ⟨K, hK⟩ := sameAll_f L (by omega) (fun x hx => by have := ((okV_iff L).1 kL).2.1 x hx; omega)
    exact ⟨K, hK K (Nat.le_refl _)⟩
  obtain ⟨K1, q1⟩ := sm _ k1 (by omega)
  obtain ⟨K2, q2⟩ := sm _ kh (by omega)
  obtain ⟨K3, q3⟩ := sm _ km (by omega)
  exact walkMerges A0 c0 h A1 c1 m w hr0 hc0 hr1 hc1 _ (by omega) (mergedU_f h m kh km (by omega)) rfl K1 q1 K2 q2 K3 q3 lh lm g2 m2 g1 m1
end Go.Proofs.Ytfepfpcilmaojaa.QV
