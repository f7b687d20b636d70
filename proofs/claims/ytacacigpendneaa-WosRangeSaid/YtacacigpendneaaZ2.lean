/- The parts QVx5, WPut, Open, WOpen, CloneR, Wo, WoA, WoAdd, WoErase, WoLen of this proof, one behind the other. -/
import Derived.Test.YtacacigpendneaaZ1
import Derived.Test.YtacacigpendneaaRows
import Derived.ProofKit
import Derived.OpenShut
import Derived.SizedLaws
import Derived.WalkKit
import Derived.WalkSpells
import Derived.Lib.Hide
import Derived.Deep.RegionHeld
/- Printed by mp.py (this session's) with the kit's print: plain functions with the answers of the Go code, and the proofs of it. -/
namespace Go.Proofs.Ytacacigpendneaa.QV
open Go.RowKit Go.Proofs.YtacacigpendneaaW.PrintWords Go.Proofs.YtacacigpendneaaW.PrintLast Go.Proofs.YtacacigpendneaaW.PrintMore
attribute [local go_sem] max2_int min2_int max_two min_two max_three min_three max_four min_four   -- for this text's walks alone
set_option linter.unusedVariables false
set_option linter.unusedSimpArgs false

attribute [local go_sem high] eqA25
/-! ### hayloftref10_Put: function 58 -/
mutual
def hayloftref10_Put.l0 : Nat → List (S29) → List (S29) → Bool → Int → Int → Int → List (S69) → Int → Option ((List (S29)))
  | 0, _, _, _, _, _, _, _, _ => none
  | k + 1, x0, x5, x6, x7, x113000, x113001, x113002, x113003 => if x7 < (x0.length : Int) then (if x6 = true then (hayloftref10_Put.j1 k x0 x5 x6 x7 false x113000 x113001 x113002 x113003) else (if 0 ≤ x7 then ((hayloftref10_Less.f ((rd_T29 x0 x7).f0.f0) ((rd_T29 x0 x7).f0.f1) x113000 x113001).bind fun t117 => (hayloftref10_Put.j1 k x0 x5 x6 x7 (!t117) x113000 x113001 x113002 x113003)) else (none))) else (if x6 = true then (some x5) else (if x5.length < 2932031007402 then (some (x5 ++ [(⟨(⟨x113000, x113001⟩ : S25), x113002, x113003⟩ : S29)])) else (none)))
def hayloftref10_Put.j1 : Nat → List (S29) → List (S29) → Bool → Int → Bool → Int → Int → List (S69) → Int → Option ((List (S29)))
  | 0, _, _, _, _, _, _, _, _, _ => none
  | k + 1, x0, x5, x6, x7, x26, x113000, x113001, x113002, x113003 => if x26 = true then (if x5.length < 2932031007402 then ((some (x5 ++ [(⟨(⟨x113000, x113001⟩ : S25), x113002, x113003⟩ : S29)] : List (S29))).bind fun y118 => (if 0 ≤ x7 then (if x7 < (x0.length : Int) then (if (!(((rd_T29 x0 x7).f0.f0) == x113000) || (!(((rd_T29 x0 x7).f0.f1) == x113001))) = true then (if y118.length < 2932031007402 then (hayloftref10_Put.l0 k x0 (y118 ++ [(⟨(⟨(rd_T29 x0 x7).f0.f0, (rd_T29 x0 x7).f0.f1⟩ : S25), (rd_T29 x0 x7).f1, (rd_T29 x0 x7).f2⟩ : S29)]) true (wrap64 (x7 + 1)) x113000 x113001 x113002 x113003) else (none)) else (hayloftref10_Put.l0 k x0 y118 true (wrap64 (x7 + 1)) x113000 x113001 x113002 x113003)) else (none)) else (none))) else (none)) else (if 0 ≤ x7 then (if x7 < (x0.length : Int) then (if (!(((rd_T29 x0 x7).f0.f0) == x113000) || (!(((rd_T29 x0 x7).f0.f1) == x113001))) = true then (if x5.length < 2932031007402 then (hayloftref10_Put.l0 k x0 (x5 ++ [(⟨(⟨(rd_T29 x0 x7).f0.f0, (rd_T29 x0 x7).f0.f1⟩ : S25), (rd_T29 x0 x7).f1, (rd_T29 x0 x7).f2⟩ : S29)]) x6 (wrap64 (x7 + 1)) x113000 x113001 x113002 x113003) else (none)) else (hayloftref10_Put.l0 k x0 x5 x6 (wrap64 (x7 + 1)) x113000 x113001 x113002 x113003)) else (none)) else (none))
end
def hayloftref10_Put.f (k : Nat) (l0 : List (S29)) (a1_0 : Int) (a1_1 : Int) (l1_2 : List (S69)) (a1_3 : Int) : Option ((List (S29))) := hayloftref10_Put.l0 k l0 ([] : List (S29)) false 0 a1_0 a1_1 l1_2 a1_3
theorem hayloftref10_Put.mono_l : ∀ k, (∀ y0 y1 y2 y3 y4 y5 y6 y7, LeO (hayloftref10_Put.l0 k y0 y1 y2 y3 y4 y5 y6 y7) (hayloftref10_Put.l0 (k + 1) y0 y1 y2 y3 y4 y5 y6 y7)) ∧ (∀ y0 y1 y2 y3 y4 y5 y6 y7 y8, LeO (hayloftref10_Put.j1 k y0 y1 y2 y3 y4 y5 y6 y7 y8) (hayloftref10_Put.j1 (k + 1) y0 y1 y2 y3 y4 y5 y6 y7 y8))
  | 0 => ⟨fun _ _ _ _ _ _ _ _ r h => by simp [hayloftref10_Put.l0] at h, fun _ _ _ _ _ _ _ _ _ r h => by simp [hayloftref10_Put.j1] at h⟩
  | k + 1 => by
    obtain ⟨ih0, ih1⟩ := hayloftref10_Put.mono_l k
    refine ⟨?_, ?_⟩
    · intro y0 y1 y2 y3 y4 y5 y6 y7
      unfold hayloftref10_Put.l0
      repeat' first
      | (with_reducible exact ih0 _ _ _ _ _ _ _ _)
      | (with_reducible exact ih1 _ _ _ _ _ _ _ _ _)
      | (with_reducible exact LeO.refl _)
      | (with_reducible exact LeO.none _)
      | (with_reducible refine LeO.ite ?_ ?_)
      | (with_reducible refine LeO.bind ?_ (fun _ => ?_))
      | exact ih0 _ _ _ _ _ _ _ _
      | exact ih1 _ _ _ _ _ _ _ _ _
      | exact LeO.none _
      | refine LeO.ite ?_ ?_
      | refine LeO.bind ?_ (fun _ => ?_)
    · intro y0 y1 y2 y3 y4 y5 y6 y7 y8
      unfold hayloftref10_Put.j1
      repeat' first
      | (with_reducible exact ih0 _ _ _ _ _ _ _ _)
      | (with_reducible exact ih1 _ _ _ _ _ _ _ _ _)
      | (with_reducible exact LeO.refl _)
      | (with_reducible exact LeO.none _)
      | (with_reducible refine LeO.ite ?_ ?_)
      | (with_reducible refine LeO.bind ?_ (fun _ => ?_))
      | exact ih0 _ _ _ _ _ _ _ _
      | exact ih1 _ _ _ _ _ _ _ _ _
      | exact LeO.none _
      | refine LeO.ite ?_ ?_
      | refine LeO.bind ?_ (fun _ => ?_)
theorem hayloftref10_Put.mono : ∀ a0 a1 a2 a3 a4 k, LeO (hayloftref10_Put.f k a0 a1 a2 a3 a4) (hayloftref10_Put.f (k + 1) a0 a1 a2 a3 a4) := by
  intro a0 a1 a2 a3 a4 k
  obtain ⟨ih0, ih1⟩ := hayloftref10_Put.mono_l k
  unfold hayloftref10_Put.f
  repeat' first
      | (with_reducible exact ih0 _ _ _ _ _ _ _ _)
      | (with_reducible exact ih1 _ _ _ _ _ _ _ _ _)
      | (with_reducible exact LeO.refl _)
      | (with_reducible exact LeO.none _)
      | (with_reducible refine LeO.ite ?_ ?_)
      | (with_reducible refine LeO.bind ?_ (fun _ => ?_))
      | exact ih0 _ _ _ _ _ _ _ _
      | exact ih1 _ _ _ _ _ _ _ _ _
      | exact LeO.none _
      | refine LeO.ite ?_ ?_
      | refine LeO.bind ?_ (fun _ => ?_)
def hayloftref10_Put.T6 : Bool × List (List Nat × List Nat) := (true, [([], []), ([0], [0]), ([1], [1]), ([2], [2]), ([2], [2]), ([3, 4, 2], [2, 3, 4]), ([5, 2], [2, 5]), ([6, 2], [2, 6]), ([2], [2]), ([8, 2], [2, 8]), ([7, 9, 2, 2], [2, 7, 9]), ([10, 2], [2, 10]), ([2, 11], [2, 11])])
def hayloftref10_Put.B6 : List Nat := [0, 1, 3, 7, 7, 31, 63, 127, 7, 263, 1023, 2047, 4095]
theorem hayloftref10_Put.tab6 : rtab .any (opsOf Try.f58 6) = hayloftref10_Put.T6 := by kernel_rfl
theorem hayloftref10_Put.bits6 : waitsOk hayloftref10_Put.T6.2 hayloftref10_Put.B6 = true := by kernel_rfl
def hayloftref10_Put.T9 : Bool × List (List Nat × List Nat) := (true, [([], []), ([], []), ([0, 1], [0, 1]), ([2], [2]), ([3], [3]), ([], []), ([5], [5]), ([4, 6], [4, 6])])
def hayloftref10_Put.B9 : List Nat := [0, 0, 3, 7, 15, 0, 32, 127]
theorem hayloftref10_Put.tab9 : rtab .any (opsOf Try.f58 9) = hayloftref10_Put.T9 := by kernel_rfl
theorem hayloftref10_Put.bits9 : waitsOk hayloftref10_Put.T9.2 hayloftref10_Put.B9 = true := by kernel_rfl
set_option maxHeartbeats 8000000 in
set_option maxRecDepth 100000 in
theorem hayloftref10_Put.calls (k : Nat) (P0_ : Nat → Prop) (A0 : Option Addr) (c0 : Nat) (l0 : List (S29)) (a1_0 : Int) (a1_1 : Int) (P1_2_ : Nat → Prop) (A1_2 : Option Addr) (c1_2 : Nat) (l1_2 : List (S69)) (a1_3 : Int) (r : List (S29)) (w : World) (hs0 : Kd.V k29 29 w w.heap.size (fun k_ => P0_ k_) (.slice A0 l0.length c0) l0) (hs1_2 : Kd.V k69 69 w w.heap.size (fun k_ => P1_2_ k_) (.slice A1_2 l1_2.length c1_2) l1_2) (h : hayloftref10_Put.f k l0 a1_0 a1_1 l1_2 a1_3 = some r) :
    Calls Try.prog 58 #[.slice A0 l0.length c0, .agg #[.int .u64 a1_0, .int .u32 a1_1, .slice A1_2 l1_2.length c1_2, .int .u64 a1_3]] w fun e w' => ∃ v0_ : Value, e = .returned (v0_) ∧ Kd.N k29 29 w' w.heap.size (fun k_ => ((P0_ k_ ∨ P1_2_ k_) ∨ w.heap.size ≤ k_)) v0_ r ∧ Below w.heap.size w w' := by
  have hu29 := Try.underlying29
  have hu25 := Try.underlying25
  have HO0 := Aside0.mk (show Kd.V k29 29 w w.heap.size (fun k_ => ((P0_ k_ ∨ P1_2_ k_) ∨ w.heap.size ≤ k_)) (.slice A0 l0.length c0) l0 from Kd.V_mono hs0 (fun k_ hk => .inl (.inl hk)))
  have HO1_2 := Aside0.mk (show Kd.V k69 69 w w.heap.size (fun k_ => ((P0_ k_ ∨ P1_2_ k_) ∨ w.heap.size ≤ k_)) (.slice A1_2 l1_2.length c1_2) l1_2 from Kd.V_mono hs1_2 (fun k_ hk => .inl (.inr hk)))
  have HB := Aside0.mk (Below.refl w.heap.size w)
  have H : (hayloftref10_Put.l0 k l0 ([] : List (S29)) false 0 a1_0 a1_1 l1_2 a1_3) = some r := h
  clear h
  have H' := Aside0.mk H
  clear H
  go_enter Try.func58, Try.ntmps58
  go_wp2_with (first | ((with_reducible refine gate_dst (N := 3) rfl ?_); refine box_event ?hg (N := 3) ?hd (cs := #[.int .u64 a1_0, .int .u32 a1_1, .slice A1_2 l1_2.length c1_2, .int .u64 a1_3]) (t := 29) ?hr ?_; (case hd => rfl); (case hg => rfl); (case hr => first | (go_simp; done) | (go_simp; rfl)); intro gb112 hg w3 hbox hb; have n0_ := Aside0.mk (Kd.V_below (Kd.V_elderB (by (with_reducible repeat (first | apply Kd.V_alloc | apply Kd.V_drewN | apply Kd.V_drew)); exact HO0.out) gb112 (Nat.le_of_eq hg.symm)) hb); have n1_ := Aside0.mk (Kd.V_below (Kd.V_elderB (by (with_reducible repeat (first | apply Kd.V_alloc | apply Kd.V_drewN | apply Kd.V_drew)); exact HO1_2.out) gb112 (Nat.le_of_eq hg.symm)) hb); have n2_ := Aside0.mk (below_step (by repeat (first | (with_reducible first | exact HB.out | apply below_alloc | apply pw_below_drewN | apply below_drew1) | exact HB.out)) hb); have n3_ := Aside0.mk (hbox); have n4_ := Aside0.mk ((by rw [hg]; exact (below_size (by repeat (first | (with_reducible first | exact HB.out | apply below_alloc | apply pw_below_drewN | apply below_drew1) | exact HB.out))) : w.heap.size ≤ gb112)); have n5_ := Aside0.mk ((by rw [hg]; exact (below_size (by repeat (first | (with_reducible first | exact HB.out | apply below_alloc | apply pw_below_drewN | apply below_drew1) | exact HB.out))) : w.heap.size ≤ gb112)); clear HO0; clear HO1_2; clear HB; have HO0 := n0_; have HO1_2 := n1_; have HB := n2_; have BK112 := n3_; have GW112 := n4_; have GE112 := n5_; clear n0_ n1_ n2_ n3_ n4_ n5_; clear hb hbox hg))
  go_loopg [5, 6, 7] k (fun kq v5 v6 v7 w' => ∃ (x5_1 : List (S29)) (x6_1 : Bool) (x7_1 : Int), v6 = .bool x6_1 ∧ v7 = .int .i64 x7_1 ∧ Aside0 (hayloftref10_Put.l0 kq l0 x5_1 x6_1 x7_1 a1_0 a1_1 l1_2 a1_3 = some r) ∧ Aside0 (kq ≤ k) ∧ Aside0 (Kd.V k29 29 w' w.heap.size (fun k_ => ((P0_ k_ ∨ P1_2_ k_) ∨ w.heap.size ≤ k_) ∧ some k_ ≠ (v5 : Value).ownBlock ∧ k_ ≠ gb112) (.slice A0 l0.length c0) l0) ∧ Aside0 (Kd.N k29 29 w' w.heap.size (fun k_ => ((P0_ k_ ∨ P1_2_ k_) ∨ w.heap.size ≤ k_) ∧ k_ ≠ gb112) v5 x5_1) ∧ Aside0 (Kd.V k69 69 w' w.heap.size (fun k_ => ((P0_ k_ ∨ P1_2_ k_) ∨ w.heap.size ≤ k_) ∧ some k_ ≠ (v5 : Value).ownBlock ∧ k_ ≠ gb112) (.slice A1_2 l1_2.length c1_2) l1_2) ∧ Aside0 (w'.heap[gb112]? = some (.cells #[.int .u64 a1_0, .int .u32 a1_1, (.slice A1_2 l1_2.length c1_2), .int .u64 a1_3] 29 (0, 0))) ∧ Aside0 (Below w.heap.size w w'))
  case atStart => exact ⟨(([] : List (S29))), (false), (0), (by first | rfl | (simp; done) | (simp [*]; done)), (by first | rfl | (simp; done) | (simp [*]; done)), H', ⟨Nat.le_refl _⟩, ⟨by (with_reducible repeat (first | apply Kd.V_alloc | apply Kd.V_drewN | apply Kd.V_drew)); exact Kd.V_mono HO0.out (fun _ hk => ⟨hk.1, ⟨(by simp [Value.ownBlock]), hk.2⟩⟩)⟩, ⟨by first | exact Kd.S_nil _ _ _ _ _ | exact Kd.N_nil _ _ _ _ _ | exact Kd.V_nil _ _ _ _ _ | exact Kd.Q_nil _ _ _ _ _ | exact Kd.R_nil _ _ _ _ _⟩, ⟨by (with_reducible repeat (first | apply Kd.V_alloc | apply Kd.V_drewN | apply Kd.V_drew)); exact Kd.V_mono HO1_2.out (fun _ hk => ⟨hk.1, ⟨(by simp [Value.ownBlock]), hk.2⟩⟩)⟩, ⟨by (with_reducible repeat (first | refine blk_drewN ?_ _ | refine blk_drew ?_ | refine blk_alloc ?_ _)); exact BK112.out⟩, ⟨by repeat (first | (with_reducible first | exact HB.out | apply below_alloc | apply pw_below_drewN | apply below_drew1 | refine below_set ?_ GE112.out) | exact HB.out)⟩⟩
  case round =>
    clear H'
    try clear c1
    try clear p2
    obtain ⟨x5_1, x6_1, x7_1, rfl, rfl, HA, HK1, HO_0, HO_5, HO_113002, BK112, HB⟩ := hrel
    cases gk with
    | zero => exact absurd HA.out (by simp [hayloftref10_Put.l0])
    | succ k1 =>
      have H := HA.out
      clear HA
      simp only [hayloftref10_Put.l0] at H
      by_cases c4 : x7_1 < (l0.length : Int)
      · rw [if_pos c4] at H
        have c4b0 : decide (x7_1 < (l0.length : Int)) = true := decide_eq_true c4
        clear c4
        have HC5 := Aside0.mk H
        clear H
        go_upto_region 6 with (fail)
        go_cut [26] (fun v26 wc => ∃ (kq : Nat) (x26_4 : Bool), v26 = .bool x26_4 ∧ Aside0 (hayloftref10_Put.j1 kq l0 x5_1 x6_1 x7_1 x26_4 a1_0 a1_1 l1_2 a1_3 = some r) ∧ Aside0 (kq ≤ k1) ∧ Aside0 (Kd.V k29 29 wc w.heap.size (fun k_ => ((P0_ k_ ∨ P1_2_ k_) ∨ w.heap.size ≤ k_) ∧ some k_ ≠ (u5 : Value).ownBlock ∧ k_ ≠ gb112) (.slice A0 l0.length c0) l0) ∧ Aside0 (Kd.N k29 29 wc w.heap.size (fun k_ => ((P0_ k_ ∨ P1_2_ k_) ∨ w.heap.size ≤ k_) ∧ k_ ≠ gb112) u5 x5_1) ∧ Aside0 (Kd.V k69 69 wc w.heap.size (fun k_ => ((P0_ k_ ∨ P1_2_ k_) ∨ w.heap.size ≤ k_) ∧ some k_ ≠ (u5 : Value).ownBlock ∧ k_ ≠ gb112) (.slice A1_2 l1_2.length c1_2) l1_2) ∧ Aside0 (wc.heap[gb112]? = some (.cells #[.int .u64 a1_0, .int .u32 a1_1, (.slice A1_2 l1_2.length c1_2), .int .u64 a1_3] 29 (0, 0))) ∧ Aside0 (Below w.heap.size w wc))
        case first =>
          have H := HC5.out
          clear HC5
          by_cases c6 : x6_1 = true
          · subst c6
            have H1 : (hayloftref10_Put.j1 k1 l0 x5_1 true x7_1 false a1_0 a1_1 l1_2 a1_3) = some r := by rw [if_pos rfl] at H; exact H
            clear H
            have H := H1
            clear H1
            have H' := Aside0.mk H
            clear H
            try go_wp2
            have n0_ := Aside0.mk (Kd.V_drew HO_0.out)
            have n1_ := Aside0.mk (Kd.N_drew HO_5.out)
            have n2_ := Aside0.mk (Kd.V_drew HO_113002.out)
            have n3_ := Aside0.mk (blk_drew BK112.out)
            have n4_ := Aside0.mk (below_drew1 HB.out)
            clear HO_0
            clear HO_5
            clear HO_113002
            clear BK112
            clear HB
            have HO_0 := n0_
            have HO_5 := n1_
            have HO_113002 := n2_
            have BK112 := n3_
            have HB := n4_
            clear n0_ n1_ n2_ n3_ n4_
            refine start_ (n := 13) (S := fun w' => True) (ds := []) #[false, false, false, false, false, false, false, false, false, false, false, false, false] (by kernel_rfl) rfl rfl trivial (fun hHeld => ?_); refine with_tabW hayloftref10_Put.tab6 hayloftref10_Put.bits6 (fun HT_ HW_ => ?_)
            generalize wr.drew = w7 at HO_0 HO_5 HO_113002 BK112 HB hHeld ⊢
            refine pure_ (i := 0) (N := some 14) (v := ?_) (a' := ?_) #[true, false, false, false, false, false, false, false, false, false, false, false, false] rfl rfl (any_of HT_.out (by kernel_rfl)) (fun _ _ _ h => h) (Or.inl ⟨by rfl, ?_⟩) ?_ ?_
            rotate_left
            · intro w'
              go_simp
              with_reducible rfl
            rotate_left
            · simp only [Act.put, List.setIfInBounds_toArray, List.set_cons_zero, List.set_cons_succ, i64_w, i32_w]
              rfl
            refine pure_ (i := 1) (N := some 15) (v := ?_) (a' := ?_) #[true, true, false, false, false, false, false, false, false, false, false, false, false] rfl rfl (any_of HT_.out (by kernel_rfl)) (fun _ _ _ h => h) (Or.inl ⟨by rfl, ?_⟩) ?_ ?_
            rotate_left
            · intro w'
              go_simp
              with_reducible rfl
            rotate_left
            · simp only [Act.put, List.setIfInBounds_toArray, List.set_cons_zero, List.set_cons_succ, i64_w, i32_w]
              rfl
            refine pure_ (i := 2) (N := some 16) (v := ?_) (a' := ?_) #[true, true, true, false, false, false, false, false, false, false, false, false, false] rfl rfl (any_of HT_.out (by kernel_rfl)) (fun _ _ _ h => h) (Or.inl ⟨by rfl, ?_⟩) ?_ ?_
            rotate_left
            · intro w'
              go_simp
              with_reducible rfl
            rotate_left
            · simp only [Act.put, List.setIfInBounds_toArray, List.set_cons_zero, List.set_cons_succ, i64_w, i32_w]
              rfl
            refine pure_ (i := 3) (N := some 17) (v := undef) (a' := ?_) #[true, true, true, true, false, false, false, false, false, false, false, false, false] rfl rfl (any_of HT_.out (by kernel_rfl)) (fun _ _ _ h => h) (Or.inr ⟨by rfl, rfl⟩) ?_ ?_
            rotate_left
            · simp only [Act.put, List.setIfInBounds_toArray, List.set_cons_zero, List.set_cons_succ, i64_w, i32_w]
              rfl
            refine pure_ (i := 4) (N := some 18) (v := undef) (a' := ?_) #[true, true, true, true, true, false, false, false, false, false, false, false, false] rfl rfl (any_of HT_.out (by kernel_rfl)) (fun _ _ _ h => h) (Or.inr ⟨by rfl, rfl⟩) ?_ ?_
            rotate_left
            · simp only [Act.put, List.setIfInBounds_toArray, List.set_cons_zero, List.set_cons_succ, i64_w, i32_w]
              rfl
            refine pure_ (i := 5) (N := some 19) (v := undef) (a' := ?_) #[true, true, true, true, true, true, false, false, false, false, false, false, false] rfl rfl (any_of HT_.out (by kernel_rfl)) (fun _ _ _ h => h) (Or.inr ⟨by rfl, rfl⟩) ?_ ?_
            rotate_left
            · simp only [Act.put, List.setIfInBounds_toArray, List.set_cons_zero, List.set_cons_succ, i64_w, i32_w]
              rfl
            refine pure_ (i := 6) (N := some 20) (v := undef) (a' := ?_) #[true, true, true, true, true, true, true, false, false, false, false, false, false] rfl rfl (any_of HT_.out (by kernel_rfl)) (fun _ _ _ h => h) (Or.inr ⟨by rfl, rfl⟩) ?_ ?_
            rotate_left
            · simp only [Act.put, List.setIfInBounds_toArray, List.set_cons_zero, List.set_cons_succ, i64_w, i32_w]
              rfl
            refine pure_ (i := 7) (N := some 21) (v := undef) (a' := ?_) #[true, true, true, true, true, true, true, true, false, false, false, false, false] rfl rfl (any_of HT_.out (by kernel_rfl)) (fun _ _ _ h => h) (Or.inr ⟨by rfl, rfl⟩) ?_ ?_
            rotate_left
            · simp only [Act.put, List.setIfInBounds_toArray, List.set_cons_zero, List.set_cons_succ, i64_w, i32_w]
              rfl
            refine pure_ (i := 8) (N := some 22) (v := undef) (a' := ?_) #[true, true, true, true, true, true, true, true, true, false, false, false, false] rfl rfl (any_of HT_.out (by kernel_rfl)) (fun _ _ _ h => h) (Or.inr ⟨by rfl, rfl⟩) ?_ ?_
            rotate_left
            · simp only [Act.put, List.setIfInBounds_toArray, List.set_cons_zero, List.set_cons_succ, i64_w, i32_w]
              rfl
            refine pure_ (i := 9) (N := some 23) (v := undef) (a' := ?_) #[true, true, true, true, true, true, true, true, true, true, false, false, false] rfl rfl (any_of HT_.out (by kernel_rfl)) (fun _ _ _ h => h) (Or.inr ⟨by rfl, rfl⟩) ?_ ?_
            rotate_left
            · simp only [Act.put, List.setIfInBounds_toArray, List.set_cons_zero, List.set_cons_succ, i64_w, i32_w]
              rfl
            refine pure_ (i := 10) (N := some 24) (v := undef) (a' := ?_) #[true, true, true, true, true, true, true, true, true, true, true, false, false] rfl rfl (any_of HT_.out (by kernel_rfl)) (fun _ _ _ h => h) (Or.inr ⟨by rfl, rfl⟩) ?_ ?_
            rotate_left
            · simp only [Act.put, List.setIfInBounds_toArray, List.set_cons_zero, List.set_cons_succ, i64_w, i32_w]
              rfl
            refine pure_ (i := 11) (N := some 25) (v := undef) (a' := ?_) #[true, true, true, true, true, true, true, true, true, true, true, true, false] rfl rfl (any_of HT_.out (by kernel_rfl)) (fun _ _ _ h => h) (Or.inr ⟨by rfl, rfl⟩) ?_ ?_
            rotate_left
            · simp only [Act.put, List.setIfInBounds_toArray, List.set_cons_zero, List.set_cons_succ, i64_w, i32_w]
              rfl
            refine pure_ (i := 12) (N := some 26) (v := ?_) (a' := ?_) #[true, true, true, true, true, true, true, true, true, true, true, true, true] rfl rfl (any_of HT_.out (by kernel_rfl)) (fun _ _ _ h => h) (Or.inl ⟨by rfl, ?_⟩) ?_ ?_
            rotate_left
            · intro w'
              go_simp
              with_reducible rfl
            rotate_left
            · simp only [Act.put, List.setIfInBounds_toArray, List.set_cons_zero, List.set_cons_succ, i64_w, i32_w]
              rfl
            refine done_ (done_of HT_.out (by kernel_rfl)) ?_
            try go_wp2
            go_meet
            case rel => exact ⟨_, (false), (by first | rfl | (simp; done) | (simp [*]; done)), H', ⟨by have := HK1.out; first | omega | exact Nat.le_refl _⟩, ⟨by (with_reducible repeat (first | apply Kd.V_alloc | apply Kd.V_drewN | apply Kd.V_drew)); exact HO_0.out⟩, ⟨by (with_reducible repeat (first | apply Kd.N_alloc | apply Kd.N_drewN | apply Kd.N_drew)); exact HO_5.out⟩, ⟨by (with_reducible repeat (first | apply Kd.V_alloc | apply Kd.V_drewN | apply Kd.V_drew)); exact HO_113002.out⟩, ⟨by (with_reducible repeat (first | refine blk_drewN ?_ _ | refine blk_drew ?_ | refine blk_alloc ?_ _)); exact BK112.out⟩, ⟨by repeat (first | (with_reducible first | exact HB.out | apply below_alloc | apply pw_below_drewN | apply below_drew1 | refine below_set ?_ GE112.out) | exact HB.out)⟩⟩
          · replace c6 := Bool.eq_false_iff.mpr c6
            subst c6
            have H1 : (if 0 ≤ x7_1 then ((hayloftref10_Less.f ((rd_T29 l0 x7_1).f0.f0) ((rd_T29 l0 x7_1).f0.f1) a1_0 a1_1).bind fun t117 => (hayloftref10_Put.j1 k1 l0 x5_1 false x7_1 (!t117) a1_0 a1_1 l1_2 a1_3)) else (none)) = some r := by rw [if_neg (show ¬ (false = true) by decide)] at H; exact H
            clear H
            have H := H1
            clear H1
            by_cases c8 : 0 ≤ x7_1
            · rw [if_pos c8] at H
              have c8b0 : decide (0 ≤ x7_1) = true := decide_eq_true c8
              clear c8
              (first | rw [c8b0] | (simp only [i64_w, i32_w]; rw [c8b0]) | skip)
              replace H := Option.bind_eq_some_iff.mp H
              obtain ⟨t117, A90, H⟩ := H
              replace H : (hayloftref10_Put.j1 k1 l0 x5_1 false x7_1 (!t117) a1_0 a1_1 l1_2 a1_3) = some r := H
              have A9 := Aside0.mk A90
              clear A90
              have H' := Aside0.mk H
              clear H
              try go_wp2
              have n0_ := Aside0.mk (Kd.V_drew HO_0.out)
              have n1_ := Aside0.mk (Kd.N_drew HO_5.out)
              have n2_ := Aside0.mk (Kd.V_drew HO_113002.out)
              have n3_ := Aside0.mk (blk_drew BK112.out)
              have n4_ := Aside0.mk (below_drew1 HB.out)
              clear HO_0
              clear HO_5
              clear HO_113002
              clear BK112
              clear HB
              have HO_0 := n0_
              have HO_5 := n1_
              have HO_113002 := n2_
              have BK112 := n3_
              have HB := n4_
              clear n0_ n1_ n2_ n3_ n4_
              have p116 : 0 ≤ (x7_1 : Int) := of_decide_eq_true (by first | (with_reducible assumption) | assumption)
              have q116 : x7_1 < (l0.length : Int) := of_decide_eq_true (by first | (with_reducible assumption) | assumption)
              obtain ⟨ad116, A116_2, c116_2, e116, hx116_0, hx116_1, hx116_2, hx116_3, hl116_2, hi116_2⟩ := at_T29 (Kd.V_reads' HO_0.out).2.2 x7_1 p116 q116
              cases e116
              obtain ⟨ce116, hce116, hMe116, hcc116⟩ := Kd.V_get HO_0.out z29 x7_1 p116 (by first | exact q116 | exact of_decide_eq_true (by first | (with_reducible assumption) | assumption) | (have e_ := (Kd.V_reads' HO_0.out).1; omega))
              obtain ⟨ua116_2, uc116_2, rfl, ul116_2, ge116_2⟩ := k29_openF hMe116
              have hv116_2 := hcc116 2 _ rfl
              rw [add_field _ _ 2 (by omega)] at hv116_2
              replace hv116_2 := Option.some.inj (hv116_2.symm.trans hx116_2)
              injection hv116_2 with hva_ hvn_ hvc_
              rw [hva_] at ge116_2
              rw [hvc_] at ul116_2
              have HL116_2 := Aside0.mk (show Kd.V k69 69 _ w.heap.size _ _ ((rd_T29 l0 x7_1).f1) from Kd.V_mk ul116_2 ge116_2)
              clear hva_ hvn_ hvc_ ge116_2 ul116_2
              clear hcc116 hce116
              have HR116_2 := Aside0.mk hi116_2
              have HC116_2 := Aside0.mk hl116_2
              clear hi116_2 hl116_2
              replace p116 := eq_true p116
              replace q116 := eq_true q116
              refine start_ (n := 13) (S := fun w' => w'.cell? ⟨gb112, 0, none⟩ = some (.int .u64 a1_0) ∧ w'.cell? ⟨gb112, 1, none⟩ = some (.int .u32 a1_1) ∧ w'.cell? ⟨gb112, 2, none⟩ = some (.slice A1_2 l1_2.length c1_2) ∧ w'.cell? ⟨gb112, 3, none⟩ = some (.int .u64 a1_3) ∧ w'.cell? (ad116.add ((x7_1).toNat * 4)) = some (.int .u64 ((rd_T29 l0 x7_1).f0.f0)) ∧ w'.cell? ⟨(ad116.add ((x7_1).toNat * 4)).block, (ad116.add ((x7_1).toNat * 4)).off + 1, none⟩ = some (.int .u32 ((rd_T29 l0 x7_1).f0.f1)) ∧ w'.cell? ⟨(ad116.add ((x7_1).toNat * 4)).block, (ad116.add ((x7_1).toNat * 4)).off + 2, none⟩ = some (.slice A116_2 ((rd_T29 l0 x7_1).f1).length c116_2) ∧ w'.cell? ⟨(ad116.add ((x7_1).toNat * 4)).block, (ad116.add ((x7_1).toNat * 4)).off + 3, none⟩ = some (.int .u64 ((rd_T29 l0 x7_1).f2))) (ds := []) #[false, false, false, false, false, false, false, false, false, false, false, false, false] (by kernel_rfl) rfl rfl ⟨(blk_cell BK112.out 0).trans rfl, (blk_cell BK112.out 1).trans rfl, (blk_cell BK112.out 2).trans rfl, (blk_cell BK112.out 3).trans rfl, hx116_0, hx116_1, hx116_2, hx116_3⟩ (fun hHeld => ?_); refine with_tabW hayloftref10_Put.tab6 hayloftref10_Put.bits6 (fun HT_ HW_ => ?_)
              generalize wr.drew = w10 at HO_0 HO_5 HO_113002 BK112 HB HL116_2 HR116_2 hx116_0 hx116_1 hx116_2 hx116_3 hHeld ⊢
              refine pure_ (i := 0) (N := some 14) (v := ?_) (a' := ?_) #[true, false, false, false, false, false, false, false, false, false, false, false, false] rfl rfl (any_of HT_.out (by kernel_rfl)) (fun _ _ _ h => h) (Or.inl ⟨by rfl, ?_⟩) ?_ ?_
              rotate_left
              · intro w'
                go_simp
                with_reducible rfl
              rotate_left
              · simp only [Act.put, List.setIfInBounds_toArray, List.set_cons_zero, List.set_cons_succ, i64_w, i32_w]
                rfl
              refine pure_ (i := 1) (N := some 15) (v := ?_) (a' := ?_) #[true, true, false, false, false, false, false, false, false, false, false, false, false] rfl rfl (any_of HT_.out (by kernel_rfl)) (fun _ _ _ h => h) (Or.inl ⟨by rfl, ?_⟩) ?_ ?_
              rotate_left
              · intro w'
                go_simp
                with_reducible rfl
              rotate_left
              · simp only [Act.put, List.setIfInBounds_toArray, List.set_cons_zero, List.set_cons_succ, i64_w, i32_w]
                rfl
              refine pure_ (i := 2) (N := some 16) (v := ?_) (a' := ?_) #[true, true, true, false, false, false, false, false, false, false, false, false, false] rfl rfl (any_of HT_.out (by kernel_rfl)) (fun _ _ _ h => h) (Or.inl ⟨by rfl, ?_⟩) ?_ ?_
              rotate_left
              · intro w'
                go_simp
                with_reducible rfl
              rotate_left
              · simp only [Act.put, List.setIfInBounds_toArray, List.set_cons_zero, List.set_cons_succ, i64_w, i32_w]
                rfl
              refine pure_ (i := 3) (N := some 17) (v := ?_) (a' := ?_) #[true, true, true, true, false, false, false, false, false, false, false, false, false] rfl rfl (any_of HT_.out (by kernel_rfl)) (fun _ _ _ h => h) (Or.inl ⟨by rfl, ?_⟩) ?_ ?_
              rotate_left
              · intro w'
                go_simp
                with_reducible rfl
              rotate_left
              · simp only [Act.put, List.setIfInBounds_toArray, List.set_cons_zero, List.set_cons_succ, i64_w, i32_w]
                rfl
              refine pure_ (i := 4) (N := some 18) (v := ?_) (a' := ?_) #[true, true, true, true, true, false, false, false, false, false, false, false, false] rfl rfl (any_of HT_.out (by kernel_rfl)) (fun _ _ _ h => h) (Or.inl ⟨by rfl, ?_⟩) ?_ ?_
              rotate_left
              · intro w'
                go_simp
                with_reducible rfl
              rotate_left
              · simp only [Act.put, List.setIfInBounds_toArray, List.set_cons_zero, List.set_cons_succ, i64_w, i32_w]
                rfl
              refine pure_ (i := 5) (N := some 19) (v := ?_) (a' := ?_) #[true, true, true, true, true, true, false, false, false, false, false, false, false] rfl rfl (any_of HT_.out (by kernel_rfl)) (fun _ _ _ h => h) (Or.inl ⟨by rfl, ?_⟩) ?_ ?_
              rotate_left
              · intro w'
                go_simp
                with_reducible rfl
              rotate_left
              · simp only [Act.put, List.setIfInBounds_toArray, List.set_cons_zero, List.set_cons_succ, i64_w, i32_w]
                rfl
              refine pure_ (i := 6) (N := some 20) (v := ?_) (a' := ?_) #[true, true, true, true, true, true, true, false, false, false, false, false, false] rfl rfl (any_of HT_.out (by kernel_rfl)) (fun _ _ _ h => h) (Or.inl ⟨by rfl, ?_⟩) ?_ ?_
              rotate_left
              · intro w'
                go_simp
                with_reducible rfl
              rotate_left
              · simp only [Act.put, List.setIfInBounds_toArray, List.set_cons_zero, List.set_cons_succ, i64_w, i32_w]
                rfl
              refine pure_ (i := 8) (N := some 22) (v := ?_) (a' := ?_) #[true, true, true, true, true, true, true, false, true, false, false, false, false] rfl rfl (any_of HT_.out (by kernel_rfl)) (fun _ _ _ h => h) (Or.inl ⟨by rfl, ?_⟩) ?_ ?_
              rotate_left
              · intro w'
                go_simp
                with_reducible rfl
              rotate_left
              · simp only [Act.put, List.setIfInBounds_toArray, List.set_cons_zero, List.set_cons_succ, i64_w, i32_w]
                rfl
              refine take_ (i := 7) (N := some 21) (v := ?_) (a' := ?_) #[true, true, true, true, true, true, true, true, true, false, false, false, false] rfl rfl (take_ofW HT_.out HW_.out (by kernel_rfl)) (fun _ _ _ h => h) (Or.inl ⟨by rfl, ?_⟩) hHeld ?_ ?_
              rotate_left
              · rintro w' ⟨s0, s1, s2, s3, s4, s5, s6, s7⟩
                go_simp
                with_reducible rfl
              rotate_left
              · simp only [Act.put, List.setIfInBounds_toArray, List.set_cons_zero, List.set_cons_succ, i64_w, i32_w]
                rfl
              refine take_ (i := 9) (N := some 23) (v := ?_) (a' := ?_) #[true, true, true, true, true, true, true, true, true, true, false, false, false] rfl rfl (take_ofW HT_.out HW_.out (by kernel_rfl)) (fun _ _ _ h => h) (Or.inl ⟨by rfl, ?_⟩) hHeld ?_ ?_
              rotate_left
              · rintro w' ⟨s0, s1, s2, s3, s4, s5, s6, s7⟩
                go_simp
                with_reducible rfl
              rotate_left
              · simp only [Act.put, List.setIfInBounds_toArray, List.set_cons_zero, List.set_cons_succ, i64_w, i32_w]
                rfl
              refine one_ (i := 10) (N := some 24) #[true, true, true, true, true, true, true, true, true, true, true, false, false] rfl rfl (one_of HT_.out (by kernel_rfl)) (by decide) (fun K hK => ?_)
              refine goes_ Try.func13 (by kernel_rfl) rfl #[.agg #[.int .u64 ((rd_T29 l0 x7_1).f0.f0), .int .u32 ((rd_T29 l0 x7_1).f0.f1)], .agg #[.int .u64 a1_0, .int .u32 a1_1]] (by rfl) rfl rfl (by (try simp only [List.map_toArray, List.map_cons, List.map_nil]); first | done | rfl | (simp only [List.length_drop, List.length_take]; rfl)) ?_
              with_reducible refine (hayloftref10_Less.calls ((rd_T29 l0 x7_1).f0.f0) ((rd_T29 l0 x7_1).f0.f1) a1_0 a1_1 t117 _ A9.out).mono ?_
              rintro e w11 ⟨rfl, hb⟩
              have HS4_ := (hb.cell (World.block_lt_of_cell? _ _ (hHeld.2.2.2.2.1))).trans (hHeld.2.2.2.2.1)
              have HS5_ := (hb.cell (World.block_lt_of_cell? _ _ (hHeld.2.2.2.2.2.1))).trans (hHeld.2.2.2.2.2.1)
              have HS6_ := (hb.cell (World.block_lt_of_cell? _ _ (hHeld.2.2.2.2.2.2.1))).trans (hHeld.2.2.2.2.2.2.1)
              have HS7_ := (hb.cell (World.block_lt_of_cell? _ _ (hHeld.2.2.2.2.2.2.2))).trans (hHeld.2.2.2.2.2.2.2)
              refine ⟨_, rfl, ?_⟩
              have n0_ := Aside0.mk (Kd.V_below (by (with_reducible repeat (first | apply Kd.V_alloc | apply Kd.V_drewN | apply Kd.V_drew)); exact HO_0.out) hb)
              have n1_ := Aside0.mk (Kd.N_below (by (with_reducible repeat (first | apply Kd.N_alloc | apply Kd.N_drewN | apply Kd.N_drew)); exact HO_5.out) hb)
              have n2_ := Aside0.mk (Kd.V_below (by (with_reducible repeat (first | apply Kd.V_alloc | apply Kd.V_drewN | apply Kd.V_drew)); exact HO_113002.out) hb)
              have n3_ := Aside0.mk (Kd.V_below (by (with_reducible repeat (first | apply Kd.V_alloc | apply Kd.V_drewN | apply Kd.V_drew)); exact HL116_2.out) hb)
              have n4_ := Aside0.mk (blk_below (g := gb112) (o := .cells #[.int .u64 a1_0, .int .u32 a1_1, .slice A1_2 l1_2.length c1_2, .int .u64 a1_3] 29 (0, 0)) (by (with_reducible repeat (first | refine blk_drewN ?_ _ | refine blk_drew ?_ | refine blk_alloc ?_ _)); exact BK112.out) hb)
              have n5_ := Aside0.mk (Kd.C_below (by repeat (first | (with_reducible exact HR116_2.out) | (with_reducible refine Kd.C_alloc ?_ _) | (with_reducible refine Kd.C_drewN ?_ _) | (with_reducible refine Kd.C_drew ?_) | exact HR116_2.out)) hb)
              have n6_ := Aside0.mk (below_step (by repeat (first | (with_reducible first | exact HB.out | apply below_alloc | apply pw_below_drewN | apply below_drew1 | refine below_set ?_ GE112.out) | exact HB.out)) hb)
              clear HO_0
              clear HO_5
              clear HO_113002
              clear HL116_2
              clear BK112
              clear HR116_2
              clear HB
              have HO_0 := n0_
              have HO_5 := n1_
              have HO_113002 := n2_
              have HL116_2 := n3_
              have BK112 := n4_
              have HR116_2 := n5_
              have HB := n6_
              clear n0_ n1_ n2_ n3_ n4_ n5_ n6_
              (try clear hb)
              (try clear hb2)
              (try clear hk)
              (try clear hi)
              refine hK.out _ _ ⟨(blk_cell BK112.out 0).trans rfl, (blk_cell BK112.out 1).trans rfl, (blk_cell BK112.out 2).trans rfl, (blk_cell BK112.out 3).trans rfl, HS4_, HS5_, HS6_, HS7_⟩ (fun hHeld => ?_)
              clear hK K
              refine norm_ (a' := ?_) ?_ ?_
              rotate_left
              · show Act.put _ (some 24) _ = _
                simp only [Act.put, List.setIfInBounds_toArray, List.set_cons_zero, List.set_cons_succ, i64_w, i32_w]
                rfl
              refine pure_ (i := 11) (N := some 25) (v := ?_) (a' := ?_) #[true, true, true, true, true, true, true, true, true, true, true, true, false] rfl rfl (any_of HT_.out (by kernel_rfl)) (fun _ _ _ h => h) (Or.inl ⟨by rfl, ?_⟩) ?_ ?_
              rotate_left
              · intro w'
                go_simp
                with_reducible rfl
              rotate_left
              · simp only [Act.put, List.setIfInBounds_toArray, List.set_cons_zero, List.set_cons_succ, i64_w, i32_w]
                rfl
              refine pure_ (i := 12) (N := some 26) (v := ?_) (a' := ?_) #[true, true, true, true, true, true, true, true, true, true, true, true, true] rfl rfl (any_of HT_.out (by kernel_rfl)) (fun _ _ _ h => h) (Or.inl ⟨by rfl, ?_⟩) ?_ ?_
              rotate_left
              · intro w'
                go_simp
                with_reducible rfl
              rotate_left
              · simp only [Act.put, List.setIfInBounds_toArray, List.set_cons_zero, List.set_cons_succ, i64_w, i32_w]
                rfl
              refine done_ (done_of HT_.out (by kernel_rfl)) ?_
              try go_wp2
              go_meet
              case rel => exact ⟨_, (!t117), (by first | rfl | (simp; done) | (simp [*]; done)), H', ⟨by have := HK1.out; first | omega | exact Nat.le_refl _⟩, ⟨by (with_reducible repeat (first | apply Kd.V_alloc | apply Kd.V_drewN | apply Kd.V_drew)); exact HO_0.out⟩, ⟨by (with_reducible repeat (first | apply Kd.N_alloc | apply Kd.N_drewN | apply Kd.N_drew)); exact HO_5.out⟩, ⟨by (with_reducible repeat (first | apply Kd.V_alloc | apply Kd.V_drewN | apply Kd.V_drew)); exact HO_113002.out⟩, ⟨by (with_reducible repeat (first | refine blk_drewN ?_ _ | refine blk_drew ?_ | refine blk_alloc ?_ _)); exact BK112.out⟩, ⟨by repeat (first | (with_reducible first | exact HB.out | apply below_alloc | apply pw_below_drewN | apply below_drew1 | refine below_set ?_ GE112.out) | exact HB.out)⟩⟩
            · rw [if_neg c8] at H
              exact absurd H (by simp)
        case rest =>
          clear HC5
          try clear c1
          try clear p1
          try clear q1
          try clear hx1
          try clear p2
          try clear c4
          try clear c4b0
          try clear c5
          try clear c6
          try clear c8
          try clear c8b0
          try clear c11
          try clear p11
          try clear q11
          try clear hx11
          try clear hx116_0
          try clear hx116_1
          try clear hx116_2
          try clear hx116_3
          try clear p116
          try clear p2
          try clear q116
          obtain ⟨kq, x26_4, rfl, HA, HJ4, HO_0, HO_5, HO_113002, BK112, HB⟩ := hcut
          cases kq with
          | zero => exact absurd HA.out (by simp [hayloftref10_Put.j1])
          | succ kj4 =>
            have H := HA.out
            clear HA
            simp only [hayloftref10_Put.j1] at H
            by_cases c12 : x26_4 = true
            · subst c12
              have H1 : (if x5_1.length < 2932031007402 then ((some (x5_1 ++ [(⟨(⟨a1_0, a1_1⟩ : S25), l1_2, a1_3⟩ : S29)] : List (S29))).bind fun y118 => (if 0 ≤ x7_1 then (if x7_1 < (l0.length : Int) then (if (!(((rd_T29 l0 x7_1).f0.f0) == a1_0) || (!(((rd_T29 l0 x7_1).f0.f1) == a1_1))) = true then (if y118.length < 2932031007402 then (hayloftref10_Put.l0 kj4 l0 (y118 ++ [(⟨(⟨(rd_T29 l0 x7_1).f0.f0, (rd_T29 l0 x7_1).f0.f1⟩ : S25), (rd_T29 l0 x7_1).f1, (rd_T29 l0 x7_1).f2⟩ : S29)]) true (wrap64 (x7_1 + 1)) a1_0 a1_1 l1_2 a1_3) else (none)) else (hayloftref10_Put.l0 kj4 l0 y118 true (wrap64 (x7_1 + 1)) a1_0 a1_1 l1_2 a1_3)) else (none)) else (none))) else (none)) = some r := by rw [if_pos rfl] at H; exact H
              clear H
              have H := H1
              clear H1
              by_cases c13 : x5_1.length < 2932031007402
              · rw [if_pos c13] at H
                have LMc13 := Aside0.mk c13
                clear c13
                obtain ⟨y118, hy118⟩ : ∃ y_ : List (S29), y_ = (x5_1 ++ [(⟨(⟨a1_0, a1_1⟩ : S25), l1_2, a1_3⟩ : S29)]) := ⟨_, rfl⟩
                replace H : (if 0 ≤ x7_1 then (if x7_1 < (l0.length : Int) then (if (!(((rd_T29 l0 x7_1).f0.f0) == a1_0) || (!(((rd_T29 l0 x7_1).f0.f1) == a1_1))) = true then (if y118.length < 2932031007402 then (hayloftref10_Put.l0 kj4 l0 (y118 ++ [(⟨(⟨(rd_T29 l0 x7_1).f0.f0, (rd_T29 l0 x7_1).f0.f1⟩ : S25), (rd_T29 l0 x7_1).f1, (rd_T29 l0 x7_1).f2⟩ : S29)]) true (wrap64 (x7_1 + 1)) a1_0 a1_1 l1_2 a1_3) else (none)) else (hayloftref10_Put.l0 kj4 l0 y118 true (wrap64 (x7_1 + 1)) a1_0 a1_1 l1_2 a1_3)) else (none)) else (none)) = some r := by first | (rw [hy118]; with_reducible exact H) | (have H2_ := (Option.bind_some _ _).symm.trans H; rw [hy118]; with_reducible exact H2_) | (have H2_ := (Option.bind_some _ _).symm.trans H; with_reducible exact H2_) | with_reducible exact H | (rw [hy118]; exact H) | exact H
                have Ny118 := Aside0.mk hy118
                clear hy118
                by_cases c14 : 0 ≤ x7_1
                · rw [if_pos c14] at H
                  have c14b0 : decide (0 ≤ x7_1) = true := decide_eq_true c14
                  clear c14
                  by_cases c15 : x7_1 < (l0.length : Int)
                  · rw [if_pos c15] at H
                    have c15b0 : decide (x7_1 < (l0.length : Int)) = true := decide_eq_true c15
                    clear c15
                    by_cases c16 : (!(((rd_T29 l0 x7_1).f0.f0) == a1_0) || (!(((rd_T29 l0 x7_1).f0.f1) == a1_1))) = true
                    · rw [if_pos c16] at H
                      have c16b0 : (!(((rd_T29 l0 x7_1).f0.f0) == a1_0) || (!(((rd_T29 l0 x7_1).f0.f1) == a1_1))) = true := c16
                      clear c16
                      by_cases c17 : y118.length < 2932031007402
                      · rw [if_pos c17] at H
                        have LMc17 := Aside0.mk c17
                        clear c17
                        obtain ⟨y123, hy123⟩ : ∃ y_ : List (S29), y_ = (y118 ++ [(⟨(⟨(rd_T29 l0 x7_1).f0.f0, (rd_T29 l0 x7_1).f0.f1⟩ : S25), (rd_T29 l0 x7_1).f1, (rd_T29 l0 x7_1).f2⟩ : S29)]) := ⟨_, rfl⟩
                        replace H : (hayloftref10_Put.l0 kj4 l0 y123 true (wrap64 (x7_1 + 1)) a1_0 a1_1 l1_2 a1_3) = some r := by first | (rw [hy123]; with_reducible exact H) | (have H2_ := (Option.bind_some _ _).symm.trans H; rw [hy123]; with_reducible exact H2_) | (have H2_ := (Option.bind_some _ _).symm.trans H; with_reducible exact H2_) | with_reducible exact H | (rw [hy123]; exact H) | exact H
                        have Ny123 := Aside0.mk hy123
                        clear hy123
                        have H' := Aside0.mk H
                        clear H
                        have hcz18_0 : wc.cell? ⟨gb112, 0, none⟩ = some (.int .u64 a1_0) := (blk_cell BK112.out 0).trans rfl
                        have hcz18_1 : wc.cell? ⟨gb112, 1, none⟩ = some (.int .u32 a1_1) := (blk_cell BK112.out 1).trans rfl
                        have hcz18_2 : wc.cell? ⟨gb112, 2, none⟩ = some (.slice A1_2 l1_2.length c1_2) := (blk_cell BK112.out 2).trans rfl
                        have hcz18_3 : wc.cell? ⟨gb112, 3, none⟩ = some (.int .u64 a1_3) := (blk_cell BK112.out 3).trans rfl
                        have hfz18_0 := blk_frozen BK112.out 0
                        have hfz18_1 := blk_frozen BK112.out 1
                        have hfz18_2 := blk_frozen BK112.out 2
                        have hfz18_3 := blk_frozen BK112.out 3
                        try go_wp2_with (first | ((with_reducible refine gate_builtin (b := .append) (xs := #[.tmp 27, .tmp 29]) rfl ?_); at_builtin; refine Kd.N_append k29 (w0 := w) w.heap.size rfl (.tmp 27) (.tmp 29) 38 29 (.agg #[(.int .u64 0), (.int .u32 0), (.slice none 0 0), (.int .u64 0)]) 48 rfl Try.underlying38 info29 rfl (by decide) (by omega) u5 x5_1 (⟨(⟨a1_0, a1_1⟩ : S25), l1_2, a1_3⟩ : S29) [.int .u64 a1_0, .int .u32 a1_1, .slice A1_2 l1_2.length c1_2, .int .u64 a1_3] (fun k_ => ((P0_ k_ ∨ P1_2_ k_) ∨ w.heap.size ≤ k_) ∧ k_ ≠ gb112) (fun k_ => ((fun k_ => ((P0_ k_ ∨ P1_2_ k_) ∨ w.heap.size ≤ k_) ∧ k_ ≠ gb112)) k_ ∧ some k_ ≠ (u5 : Value).ownBlock) rfl rfl ?aP (fun _ hk => hk) ?aF ?aO ?aB ?aS ?aL ?_; (case aP => exact (k29_mkF _ _ (⟨(⟨a1_0, a1_1⟩ : S25), l1_2, a1_3⟩ : S29) (Kd.V_reads' (Kd.V_mono (ok' := (fun k_ => ((fun k_ => ((P0_ k_ ∨ P1_2_ k_) ∨ w.heap.size ≤ k_) ∧ k_ ≠ gb112)) k_ ∧ some k_ ≠ (u5 : Value).ownBlock)) (HO_113002.out) (fun k_ hk => ⟨⟨hk.1, hk.2.2⟩, hk.2.1⟩))).2.1 (Kd.V_F (Kd.V_mono (ok' := (fun k_ => ((fun k_ => ((P0_ k_ ∨ P1_2_ k_) ∨ w.heap.size ≤ k_) ∧ k_ ≠ gb112)) k_ ∧ some k_ ≠ (u5 : Value).ownBlock)) (HO_113002.out) (fun k_ hk => ⟨⟨hk.1, hk.2.2⟩, hk.2.1⟩))))); (case aB => exact (by repeat (first | (with_reducible first | exact HB.out | apply below_alloc | apply pw_below_drewN | apply below_drew1 | refine below_set ?_ GE112.out) | exact HB.out))); (case aF => exact (fun k_ hk => ⟨(.inr (Nat.le_trans (below_size (by repeat (first | (with_reducible first | exact HB.out | apply below_alloc | apply pw_below_drewN | apply below_drew1 | refine below_set ?_ GE112.out) | exact HB.out))) hk)), Kd.freshB (g := gb112) (o := .cells #[.int .u64 a1_0, .int .u32 a1_1, .slice A1_2 l1_2.length c1_2, .int .u64 a1_3] 29 (0, 0)) (by (with_reducible repeat (first | refine blk_drewN ?_ _ | refine blk_drew ?_ | refine blk_alloc ?_ _)); exact BK112.out) k_ hk⟩)); (case aO => exact (by (with_reducible repeat (first | apply Kd.N_alloc | apply Kd.N_drewN | apply Kd.N_drew)); exact HO_5.out)); (case aS => exact (below_size (by repeat (first | (with_reducible first | exact HB.out | apply below_alloc | apply pw_below_drewN | apply below_drew1 | refine below_set ?_ GE112.out) | exact HB.out)))); (case aL => have := LMc13.out; omega); intro v119 w19 ho hb hg hat; rw [← Ny118.out] at ho; have n0_ := Aside0.mk (Kd.V_afterv (ok := (fun k_ => ((P0_ k_ ∨ P1_2_ k_) ∨ w.heap.size ≤ k_) ∧ k_ ≠ gb112)) (by (with_reducible repeat (first | apply Kd.V_alloc | apply Kd.V_drewN | apply Kd.V_drew)); exact Kd.V_mono HO_0.out (fun _ hk => ⟨⟨hk.1, hk.2.2⟩, hk.2.1⟩)) hg hat); have n1_ := Aside0.mk (Kd.V_afterv (ok := (fun k_ => ((P0_ k_ ∨ P1_2_ k_) ∨ w.heap.size ≤ k_) ∧ k_ ≠ gb112)) (by (with_reducible repeat (first | apply Kd.V_alloc | apply Kd.V_drewN | apply Kd.V_drew)); exact Kd.V_mono HO_113002.out (fun _ hk => ⟨⟨hk.1, hk.2.2⟩, hk.2.1⟩)) hg hat); have n2_ := Aside0.mk (blk_grown (g := gb112) (o := .cells #[.int .u64 a1_0, .int .u32 a1_1, .slice A1_2 l1_2.length c1_2, .int .u64 a1_3] 29 (0, 0)) (by (with_reducible repeat (first | refine blk_drewN ?_ _ | refine blk_drew ?_ | refine blk_alloc ?_ _)); exact BK112.out) hg (Kd.N_away HO_5.out (fun _ hk => hk.2))); have n3_ := Aside0.mk (hb); have n4_ := Aside0.mk (ho); clear HO_0; clear HO_113002; clear BK112; clear HB; clear HO_5; have HO_0 := n0_; have HO_113002 := n1_; have BK112 := n2_; have HB := n3_; have HO120 := n4_; clear n0_ n1_ n2_ n3_ n4_; clear ho hb hg hat))
                        have n0_ := Aside0.mk (Kd.V_drew HO_0.out)
                        have n1_ := Aside0.mk (Kd.V_drew HO_113002.out)
                        have n2_ := Aside0.mk (Kd.N_drew HO120.out)
                        have n3_ := Aside0.mk (blk_drew BK112.out)
                        have n4_ := Aside0.mk (below_drew1 HB.out)
                        clear HO_0
                        clear HO_113002
                        clear HO120
                        clear BK112
                        clear HB
                        have HO_0 := n0_
                        have HO_113002 := n1_
                        have HO120 := n2_
                        have BK112 := n3_
                        have HB := n4_
                        clear n0_ n1_ n2_ n3_ n4_
                        have p121 : 0 ≤ (x7_1 : Int) := of_decide_eq_true (by first | (with_reducible assumption) | assumption)
                        have q121 : x7_1 < (l0.length : Int) := of_decide_eq_true (by first | (with_reducible assumption) | assumption)
                        obtain ⟨ad121, A121_2, c121_2, e121, hx121_0, hx121_1, hx121_2, hx121_3, hl121_2, hi121_2⟩ := at_T29 (Kd.V_reads' HO_0.out).2.2 x7_1 p121 q121
                        cases e121
                        obtain ⟨ce121, hce121, hMe121, hcc121⟩ := Kd.V_get HO_0.out z29 x7_1 p121 (by first | exact q121 | exact of_decide_eq_true (by first | (with_reducible assumption) | assumption) | (have e_ := (Kd.V_reads' HO_0.out).1; omega))
                        obtain ⟨ua121_2, uc121_2, rfl, ul121_2, ge121_2⟩ := k29_openF hMe121
                        have hv121_2 := hcc121 2 _ rfl
                        rw [add_field _ _ 2 (by omega)] at hv121_2
                        replace hv121_2 := Option.some.inj (hv121_2.symm.trans hx121_2)
                        injection hv121_2 with hva_ hvn_ hvc_
                        rw [hva_] at ge121_2
                        rw [hvc_] at ul121_2
                        have HL121_2 := Aside0.mk (show Kd.V k69 69 _ w.heap.size _ _ ((rd_T29 l0 x7_1).f1) from Kd.V_mk ul121_2 ge121_2)
                        clear hva_ hvn_ hvc_ ge121_2 ul121_2
                        clear hcc121 hce121
                        have HR121_2 := Aside0.mk hi121_2
                        have HC121_2 := Aside0.mk hl121_2
                        clear hi121_2 hl121_2
                        replace p121 := eq_true p121
                        replace q121 := eq_true q121
                        refine start_ (n := 8) (S := fun w' => w'.cell? ⟨gb112, 0, none⟩ = some (.int .u64 a1_0) ∧ w'.cell? ⟨gb112, 1, none⟩ = some (.int .u32 a1_1) ∧ w'.cell? ⟨gb112, 2, none⟩ = some (.slice A1_2 l1_2.length c1_2) ∧ w'.cell? ⟨gb112, 3, none⟩ = some (.int .u64 a1_3) ∧ w'.cell? (ad121.add ((x7_1).toNat * 4)) = some (.int .u64 ((rd_T29 l0 x7_1).f0.f0)) ∧ w'.cell? ⟨(ad121.add ((x7_1).toNat * 4)).block, (ad121.add ((x7_1).toNat * 4)).off + 1, none⟩ = some (.int .u32 ((rd_T29 l0 x7_1).f0.f1)) ∧ w'.cell? ⟨(ad121.add ((x7_1).toNat * 4)).block, (ad121.add ((x7_1).toNat * 4)).off + 2, none⟩ = some (.slice A121_2 ((rd_T29 l0 x7_1).f1).length c121_2) ∧ w'.cell? ⟨(ad121.add ((x7_1).toNat * 4)).block, (ad121.add ((x7_1).toNat * 4)).off + 3, none⟩ = some (.int .u64 ((rd_T29 l0 x7_1).f2))) (ds := []) #[false, false, false, false, false, false, false, false] (by kernel_rfl) rfl rfl ⟨(blk_cell BK112.out 0).trans rfl, (blk_cell BK112.out 1).trans rfl, (blk_cell BK112.out 2).trans rfl, (blk_cell BK112.out 3).trans rfl, hx121_0, hx121_1, hx121_2, hx121_3⟩ (fun hHeld => ?_); refine with_tabW hayloftref10_Put.tab9 hayloftref10_Put.bits9 (fun HT_ HW_ => ?_)
                        generalize w19.drew = w20 at HO_0 HO_113002 HO120 BK112 HB HL121_2 HR121_2 hx121_0 hx121_1 hx121_2 hx121_3 hHeld ⊢
                        refine pure_ (i := 0) (N := some 31) (v := ?_) (a' := ?_) #[true, false, false, false, false, false, false, false] rfl rfl (any_of HT_.out (by kernel_rfl)) (fun _ _ _ h => h) (Or.inl ⟨by rfl, ?_⟩) ?_ ?_
                        rotate_left
                        · intro w'
                          go_simp
                          with_reducible rfl
                        rotate_left
                        · simp only [Act.put, List.setIfInBounds_toArray, List.set_cons_zero, List.set_cons_succ, i64_w, i32_w]
                          rfl
                        refine pure_ (i := 1) (N := some 32) (v := ?_) (a' := ?_) #[true, true, false, false, false, false, false, false] rfl rfl (any_of HT_.out (by kernel_rfl)) (fun _ _ _ h => h) (Or.inl ⟨by rfl, ?_⟩) ?_ ?_
                        rotate_left
                        · intro w'
                          go_simp
                          with_reducible rfl
                        rotate_left
                        · simp only [Act.put, List.setIfInBounds_toArray, List.set_cons_zero, List.set_cons_succ, i64_w, i32_w]
                          rfl
                        refine pure_ (i := 2) (N := some 33) (v := ?_) (a' := ?_) #[true, true, true, false, false, false, false, false] rfl rfl (any_of HT_.out (by kernel_rfl)) (fun _ _ _ h => h) (Or.inl ⟨by rfl, ?_⟩) ?_ ?_
                        rotate_left
                        · intro w'
                          go_simp
                          with_reducible rfl
                        rotate_left
                        · simp only [Act.put, List.setIfInBounds_toArray, List.set_cons_zero, List.set_cons_succ, i64_w, i32_w]
                          rfl
                        refine pure_ (i := 3) (N := some 34) (v := ?_) (a' := ?_) #[true, true, true, true, false, false, false, false] rfl rfl (any_of HT_.out (by kernel_rfl)) (fun _ _ _ h => h) (Or.inl ⟨by rfl, ?_⟩) ?_ ?_
                        rotate_left
                        · intro w'
                          go_simp
                          with_reducible rfl
                        rotate_left
                        · simp only [Act.put, List.setIfInBounds_toArray, List.set_cons_zero, List.set_cons_succ, i64_w, i32_w]
                          rfl
                        refine pure_ (i := 5) (N := some 36) (v := ?_) (a' := ?_) #[true, true, true, true, false, true, false, false] rfl rfl (any_of HT_.out (by kernel_rfl)) (fun _ _ _ h => h) (Or.inl ⟨by rfl, ?_⟩) ?_ ?_
                        rotate_left
                        · intro w'
                          go_simp
                          with_reducible rfl
                        rotate_left
                        · simp only [Act.put, List.setIfInBounds_toArray, List.set_cons_zero, List.set_cons_succ, i64_w, i32_w]
                          rfl
                        refine take_ (i := 4) (N := some 35) (v := ?_) (a' := ?_) #[true, true, true, true, true, true, false, false] rfl rfl (take_ofW HT_.out HW_.out (by kernel_rfl)) (fun _ _ _ h => h) (Or.inl ⟨by rfl, ?_⟩) hHeld ?_ ?_
                        rotate_left
                        · rintro w' ⟨s0, s1, s2, s3, s4, s5, s6, s7⟩
                          go_simp
                          with_reducible rfl
                        rotate_left
                        · simp only [Act.put, List.setIfInBounds_toArray, List.set_cons_zero, List.set_cons_succ, i64_w, i32_w]
                          rfl
                        refine take_ (i := 6) (N := some 37) (v := ?_) (a' := ?_) #[true, true, true, true, true, true, true, false] rfl rfl (take_ofW HT_.out HW_.out (by kernel_rfl)) (fun _ _ _ h => h) (Or.inl ⟨by rfl, ?_⟩) hHeld ?_ ?_
                        rotate_left
                        · rintro w' ⟨s0, s1, s2, s3, s4, s5, s6, s7⟩
                          go_simp
                          with_reducible rfl
                        rotate_left
                        · simp only [Act.put, List.setIfInBounds_toArray, List.set_cons_zero, List.set_cons_succ, i64_w, i32_w]
                          rfl
                        refine pure_ (i := 7) (N := some 38) (v := ?_) (a' := ?_) #[true, true, true, true, true, true, true, true] rfl rfl (any_of HT_.out (by kernel_rfl)) (fun _ _ _ h => h) (Or.inl ⟨by rfl, ?_⟩) ?_ ?_
                        rotate_left
                        · intro w'
                          go_simp
                          with_reducible rfl
                        rotate_left
                        · simp only [Act.put, List.setIfInBounds_toArray, List.set_cons_zero, List.set_cons_succ, i64_w, i32_w]
                          rfl
                        refine done_ (done_of HT_.out (by kernel_rfl)) ?_
                        have p122 : 0 ≤ (x7_1 : Int) := of_decide_eq_true (by first | (with_reducible assumption) | assumption)
                        have q122 : x7_1 < (l0.length : Int) := of_decide_eq_true (by first | (with_reducible assumption) | assumption)
                        obtain ⟨ad122, A122_2, c122_2, e122, hx122_0, hx122_1, hx122_2, hx122_3, hl122_2, hi122_2⟩ := at_T29 (Kd.V_reads' HO_0.out).2.2 x7_1 p122 q122
                        obtain rfl : ad121 = ad122 := (by injection e122)
                        obtain ⟨ce122, hce122, hMe122, hcc122⟩ := Kd.V_get HO_0.out z29 x7_1 p122 (by first | exact q122 | exact of_decide_eq_true (by first | (with_reducible assumption) | assumption) | (have e_ := (Kd.V_reads' HO_0.out).1; omega))
                        obtain ⟨ua122_2, uc122_2, rfl, ul122_2, ge122_2⟩ := k29_openF hMe122
                        have hv122_2 := hcc122 2 _ rfl
                        rw [add_field _ _ 2 (by omega)] at hv122_2
                        replace hv122_2 := Option.some.inj (hv122_2.symm.trans hx122_2)
                        injection hv122_2 with hva_ hvn_ hvc_
                        rw [hva_] at ge122_2
                        rw [hvc_] at ul122_2
                        have HL122_2 := Aside0.mk (show Kd.V k69 69 _ w.heap.size _ _ ((rd_T29 l0 x7_1).f1) from Kd.V_mk ul122_2 ge122_2)
                        clear hva_ hvn_ hvc_ ge122_2 ul122_2
                        clear hcc122 hce122
                        have HR122_2 := Aside0.mk hi122_2
                        have HC122_2 := Aside0.mk hl122_2
                        clear hi122_2 hl122_2
                        replace p122 := eq_true p122
                        replace q122 := eq_true q122
                        have ea_ := Option.some.inj (hx121_2.symm.trans hx122_2)
                        injection ea_ with ea_ en_ ec_
                        subst ea_
                        subst ec_
                        clear en_
                        try go_wp2_with (first | ((with_reducible refine gate_builtin (b := .append) (xs := #[.tmp 39, .tmp 44]) rfl ?_); at_builtin; refine Kd.N_append k29 (w0 := w) w.heap.size rfl (.tmp 39) (.tmp 44) 38 29 (.agg #[(.int .u64 0), (.int .u32 0), (.slice none 0 0), (.int .u64 0)]) 48 rfl Try.underlying38 info29 rfl (by decide) (by omega) v119 y118 (⟨(⟨(rd_T29 l0 x7_1).f0.f0, (rd_T29 l0 x7_1).f0.f1⟩ : S25), (rd_T29 l0 x7_1).f1, (rd_T29 l0 x7_1).f2⟩ : S29) [.int .u64 ((rd_T29 l0 x7_1).f0.f0), .int .u32 ((rd_T29 l0 x7_1).f0.f1), .slice A121_2 ((rd_T29 l0 x7_1).f1).length c121_2, .int .u64 ((rd_T29 l0 x7_1).f2)] (fun k_ => ((P0_ k_ ∨ P1_2_ k_) ∨ w.heap.size ≤ k_) ∧ k_ ≠ gb112) (fun k_ => ((fun k_ => ((P0_ k_ ∨ P1_2_ k_) ∨ w.heap.size ≤ k_) ∧ k_ ≠ gb112)) k_ ∧ some k_ ≠ (v119 : Value).ownBlock) rfl rfl ?aP (fun _ hk => hk) ?aF ?aO ?aB ?aS ?aL ?_; (case aP => exact (k29_mkF _ _ (⟨(⟨(rd_T29 l0 x7_1).f0.f0, (rd_T29 l0 x7_1).f0.f1⟩ : S25), (rd_T29 l0 x7_1).f1, (rd_T29 l0 x7_1).f2⟩ : S29) (Kd.V_reads' (Kd.V_mono (ok' := (fun k_ => ((fun k_ => ((P0_ k_ ∨ P1_2_ k_) ∨ w.heap.size ≤ k_) ∧ k_ ≠ gb112)) k_ ∧ some k_ ≠ (v119 : Value).ownBlock)) (HL122_2.out) (fun k_ hk => ⟨⟨hk.1.1, hk.1.2⟩, hk.2⟩))).2.1 (Kd.V_F (Kd.V_mono (ok' := (fun k_ => ((fun k_ => ((P0_ k_ ∨ P1_2_ k_) ∨ w.heap.size ≤ k_) ∧ k_ ≠ gb112)) k_ ∧ some k_ ≠ (v119 : Value).ownBlock)) (HL122_2.out) (fun k_ hk => ⟨⟨hk.1.1, hk.1.2⟩, hk.2⟩))))); (case aB => exact (by repeat (first | (with_reducible first | exact HB.out | apply below_alloc | apply pw_below_drewN | apply below_drew1 | refine below_set ?_ GE112.out) | exact HB.out))); (case aF => exact (fun k_ hk => ⟨(.inr (Nat.le_trans (below_size (by repeat (first | (with_reducible first | exact HB.out | apply below_alloc | apply pw_below_drewN | apply below_drew1 | refine below_set ?_ GE112.out) | exact HB.out))) hk)), Kd.freshB (g := gb112) (o := .cells #[.int .u64 a1_0, .int .u32 a1_1, .slice A1_2 l1_2.length c1_2, .int .u64 a1_3] 29 (0, 0)) (by (with_reducible repeat (first | refine blk_drewN ?_ _ | refine blk_drew ?_ | refine blk_alloc ?_ _)); exact BK112.out) k_ hk⟩)); (case aO => exact (by (with_reducible repeat (first | apply Kd.N_alloc | apply Kd.N_drewN | apply Kd.N_drew)); exact HO120.out)); (case aS => exact (below_size (by repeat (first | (with_reducible first | exact HB.out | apply below_alloc | apply pw_below_drewN | apply below_drew1 | refine below_set ?_ GE112.out) | exact HB.out)))); (case aL => have := LMc17.out; omega); intro v124 w21 ho hb hg hat; rw [← Ny123.out] at ho; have n0_ := Aside0.mk (Kd.V_afterv (ok := (fun k_ => ((P0_ k_ ∨ P1_2_ k_) ∨ w.heap.size ≤ k_) ∧ k_ ≠ gb112)) (by (with_reducible repeat (first | apply Kd.V_alloc | apply Kd.V_drewN | apply Kd.V_drew)); exact HO_0.out) hg hat); have n1_ := Aside0.mk (Kd.V_afterv (ok := (fun k_ => ((P0_ k_ ∨ P1_2_ k_) ∨ w.heap.size ≤ k_) ∧ k_ ≠ gb112)) (by (with_reducible repeat (first | apply Kd.V_alloc | apply Kd.V_drewN | apply Kd.V_drew)); exact HO_113002.out) hg hat); have n2_ := Aside0.mk (blk_grown (g := gb112) (o := .cells #[.int .u64 a1_0, .int .u32 a1_1, .slice A1_2 l1_2.length c1_2, .int .u64 a1_3] 29 (0, 0)) (by (with_reducible repeat (first | refine blk_drewN ?_ _ | refine blk_drew ?_ | refine blk_alloc ?_ _)); exact BK112.out) hg (Kd.N_away HO120.out (fun _ hk => hk.2))); have n3_ := Aside0.mk (Kd.V_afterv (ok := (fun k_ => ((P0_ k_ ∨ P1_2_ k_) ∨ w.heap.size ≤ k_) ∧ k_ ≠ gb112)) (by (with_reducible repeat (first | apply Kd.V_alloc | apply Kd.V_drewN | apply Kd.V_drew)); exact HL121_2.out) hg hat); have n4_ := Aside0.mk (Kd.V_afterv (ok := (fun k_ => ((P0_ k_ ∨ P1_2_ k_) ∨ w.heap.size ≤ k_) ∧ k_ ≠ gb112)) (by (with_reducible repeat (first | apply Kd.V_alloc | apply Kd.V_drewN | apply Kd.V_drew)); exact HL122_2.out) hg hat); have n5_ := Aside0.mk (hb); have n6_ := Aside0.mk (ho); clear HO_0; clear HO_113002; clear BK112; clear HL121_2; clear HL122_2; clear HB; clear HO120; have HO_0 := n0_; have HO_113002 := n1_; have BK112 := n2_; have HL121_2 := n3_; have HL122_2 := n4_; have HB := n5_; have HO125 := n6_; clear n0_ n1_ n2_ n3_ n4_ n5_ n6_; clear ho hb hg hat))
                        go_roundg kj4
                        case measure => have := HK1.out; have := HJ4.out; omega
                        case rel => exact ⟨(y123), (true), (wrap64 (x7_1 + 1)), (by first | rfl | (simp; done) | (simp [*]; done)), (by first | rfl | (simp; done) | (simp [*]; done)), H', ⟨by have := HK1.out; have := HJ4.out; omega⟩, ⟨by (with_reducible repeat (first | apply Kd.V_alloc | apply Kd.V_drewN | apply Kd.V_drew)); exact Kd.V_mono HO_0.out (fun _ hk => ⟨hk.1.1, ⟨hk.2, hk.1.2⟩⟩)⟩, ⟨by (with_reducible repeat (first | apply Kd.N_alloc | apply Kd.N_drewN | apply Kd.N_drew)); exact HO125.out⟩, ⟨by (with_reducible repeat (first | apply Kd.V_alloc | apply Kd.V_drewN | apply Kd.V_drew)); exact Kd.V_mono HO_113002.out (fun _ hk => ⟨hk.1.1, ⟨hk.2, hk.1.2⟩⟩)⟩, ⟨by (with_reducible repeat (first | refine blk_drewN ?_ _ | refine blk_drew ?_ | refine blk_alloc ?_ _)); exact BK112.out⟩, ⟨by repeat (first | (with_reducible first | exact HB.out | apply below_alloc | apply pw_below_drewN | apply below_drew1 | refine below_set ?_ GE112.out) | exact HB.out)⟩⟩
                      · rw [if_neg c17] at H
                        exact absurd H (by simp)
                    · rw [if_neg c16] at H
                      have c16b0 : (!(((rd_T29 l0 x7_1).f0.f0) == a1_0) || (!(((rd_T29 l0 x7_1).f0.f1) == a1_1))) = false := by simpa using c16
                      clear c16
                      have H' := Aside0.mk H
                      clear H
                      have hcz22_0 : wc.cell? ⟨gb112, 0, none⟩ = some (.int .u64 a1_0) := (blk_cell BK112.out 0).trans rfl
                      have hcz22_1 : wc.cell? ⟨gb112, 1, none⟩ = some (.int .u32 a1_1) := (blk_cell BK112.out 1).trans rfl
                      have hcz22_2 : wc.cell? ⟨gb112, 2, none⟩ = some (.slice A1_2 l1_2.length c1_2) := (blk_cell BK112.out 2).trans rfl
                      have hcz22_3 : wc.cell? ⟨gb112, 3, none⟩ = some (.int .u64 a1_3) := (blk_cell BK112.out 3).trans rfl
                      have hfz22_0 := blk_frozen BK112.out 0
                      have hfz22_1 := blk_frozen BK112.out 1
                      have hfz22_2 := blk_frozen BK112.out 2
                      have hfz22_3 := blk_frozen BK112.out 3
                      try go_wp2_with (first | ((with_reducible refine gate_builtin (b := .append) (xs := #[.tmp 27, .tmp 29]) rfl ?_); at_builtin; refine Kd.N_append k29 (w0 := w) w.heap.size rfl (.tmp 27) (.tmp 29) 38 29 (.agg #[(.int .u64 0), (.int .u32 0), (.slice none 0 0), (.int .u64 0)]) 48 rfl Try.underlying38 info29 rfl (by decide) (by omega) u5 x5_1 (⟨(⟨a1_0, a1_1⟩ : S25), l1_2, a1_3⟩ : S29) [.int .u64 a1_0, .int .u32 a1_1, .slice A1_2 l1_2.length c1_2, .int .u64 a1_3] (fun k_ => ((P0_ k_ ∨ P1_2_ k_) ∨ w.heap.size ≤ k_) ∧ k_ ≠ gb112) (fun k_ => ((fun k_ => ((P0_ k_ ∨ P1_2_ k_) ∨ w.heap.size ≤ k_) ∧ k_ ≠ gb112)) k_ ∧ some k_ ≠ (u5 : Value).ownBlock) rfl rfl ?aP (fun _ hk => hk) ?aF ?aO ?aB ?aS ?aL ?_; (case aP => exact (k29_mkF _ _ (⟨(⟨a1_0, a1_1⟩ : S25), l1_2, a1_3⟩ : S29) (Kd.V_reads' (Kd.V_mono (ok' := (fun k_ => ((fun k_ => ((P0_ k_ ∨ P1_2_ k_) ∨ w.heap.size ≤ k_) ∧ k_ ≠ gb112)) k_ ∧ some k_ ≠ (u5 : Value).ownBlock)) (HO_113002.out) (fun k_ hk => ⟨⟨hk.1, hk.2.2⟩, hk.2.1⟩))).2.1 (Kd.V_F (Kd.V_mono (ok' := (fun k_ => ((fun k_ => ((P0_ k_ ∨ P1_2_ k_) ∨ w.heap.size ≤ k_) ∧ k_ ≠ gb112)) k_ ∧ some k_ ≠ (u5 : Value).ownBlock)) (HO_113002.out) (fun k_ hk => ⟨⟨hk.1, hk.2.2⟩, hk.2.1⟩))))); (case aB => exact (by repeat (first | (with_reducible first | exact HB.out | apply below_alloc | apply pw_below_drewN | apply below_drew1 | refine below_set ?_ GE112.out) | exact HB.out))); (case aF => exact (fun k_ hk => ⟨(.inr (Nat.le_trans (below_size (by repeat (first | (with_reducible first | exact HB.out | apply below_alloc | apply pw_below_drewN | apply below_drew1 | refine below_set ?_ GE112.out) | exact HB.out))) hk)), Kd.freshB (g := gb112) (o := .cells #[.int .u64 a1_0, .int .u32 a1_1, .slice A1_2 l1_2.length c1_2, .int .u64 a1_3] 29 (0, 0)) (by (with_reducible repeat (first | refine blk_drewN ?_ _ | refine blk_drew ?_ | refine blk_alloc ?_ _)); exact BK112.out) k_ hk⟩)); (case aO => exact (by (with_reducible repeat (first | apply Kd.N_alloc | apply Kd.N_drewN | apply Kd.N_drew)); exact HO_5.out)); (case aS => exact (below_size (by repeat (first | (with_reducible first | exact HB.out | apply below_alloc | apply pw_below_drewN | apply below_drew1 | refine below_set ?_ GE112.out) | exact HB.out)))); (case aL => have := LMc13.out; omega); intro v119 w23 ho hb hg hat; rw [← Ny118.out] at ho; have n0_ := Aside0.mk (Kd.V_afterv (ok := (fun k_ => ((P0_ k_ ∨ P1_2_ k_) ∨ w.heap.size ≤ k_) ∧ k_ ≠ gb112)) (by (with_reducible repeat (first | apply Kd.V_alloc | apply Kd.V_drewN | apply Kd.V_drew)); exact Kd.V_mono HO_0.out (fun _ hk => ⟨⟨hk.1, hk.2.2⟩, hk.2.1⟩)) hg hat); have n1_ := Aside0.mk (Kd.V_afterv (ok := (fun k_ => ((P0_ k_ ∨ P1_2_ k_) ∨ w.heap.size ≤ k_) ∧ k_ ≠ gb112)) (by (with_reducible repeat (first | apply Kd.V_alloc | apply Kd.V_drewN | apply Kd.V_drew)); exact Kd.V_mono HO_113002.out (fun _ hk => ⟨⟨hk.1, hk.2.2⟩, hk.2.1⟩)) hg hat); have n2_ := Aside0.mk (blk_grown (g := gb112) (o := .cells #[.int .u64 a1_0, .int .u32 a1_1, .slice A1_2 l1_2.length c1_2, .int .u64 a1_3] 29 (0, 0)) (by (with_reducible repeat (first | refine blk_drewN ?_ _ | refine blk_drew ?_ | refine blk_alloc ?_ _)); exact BK112.out) hg (Kd.N_away HO_5.out (fun _ hk => hk.2))); have n3_ := Aside0.mk (hb); have n4_ := Aside0.mk (ho); clear HO_0; clear HO_113002; clear BK112; clear HB; clear HO_5; have HO_0 := n0_; have HO_113002 := n1_; have BK112 := n2_; have HB := n3_; have HO120 := n4_; clear n0_ n1_ n2_ n3_ n4_; clear ho hb hg hat))
                      have n0_ := Aside0.mk (Kd.V_drew HO_0.out)
                      have n1_ := Aside0.mk (Kd.V_drew HO_113002.out)
                      have n2_ := Aside0.mk (Kd.N_drew HO120.out)
                      have n3_ := Aside0.mk (blk_drew BK112.out)
                      have n4_ := Aside0.mk (below_drew1 HB.out)
                      clear HO_0
                      clear HO_113002
                      clear HO120
                      clear BK112
                      clear HB
                      have HO_0 := n0_
                      have HO_113002 := n1_
                      have HO120 := n2_
                      have BK112 := n3_
                      have HB := n4_
                      clear n0_ n1_ n2_ n3_ n4_
                      have p121 : 0 ≤ (x7_1 : Int) := of_decide_eq_true (by first | (with_reducible assumption) | assumption)
                      have q121 : x7_1 < (l0.length : Int) := of_decide_eq_true (by first | (with_reducible assumption) | assumption)
                      obtain ⟨ad121, A121_2, c121_2, e121, hx121_0, hx121_1, hx121_2, hx121_3, hl121_2, hi121_2⟩ := at_T29 (Kd.V_reads' HO_0.out).2.2 x7_1 p121 q121
                      cases e121
                      obtain ⟨ce121, hce121, hMe121, hcc121⟩ := Kd.V_get HO_0.out z29 x7_1 p121 (by first | exact q121 | exact of_decide_eq_true (by first | (with_reducible assumption) | assumption) | (have e_ := (Kd.V_reads' HO_0.out).1; omega))
                      obtain ⟨ua121_2, uc121_2, rfl, ul121_2, ge121_2⟩ := k29_openF hMe121
                      have hv121_2 := hcc121 2 _ rfl
                      rw [add_field _ _ 2 (by omega)] at hv121_2
                      replace hv121_2 := Option.some.inj (hv121_2.symm.trans hx121_2)
                      injection hv121_2 with hva_ hvn_ hvc_
                      rw [hva_] at ge121_2
                      rw [hvc_] at ul121_2
                      have HL121_2 := Aside0.mk (show Kd.V k69 69 _ w.heap.size _ _ ((rd_T29 l0 x7_1).f1) from Kd.V_mk ul121_2 ge121_2)
                      clear hva_ hvn_ hvc_ ge121_2 ul121_2
                      clear hcc121 hce121
                      have HR121_2 := Aside0.mk hi121_2
                      have HC121_2 := Aside0.mk hl121_2
                      clear hi121_2 hl121_2
                      replace p121 := eq_true p121
                      replace q121 := eq_true q121
                      refine start_ (n := 8) (S := fun w' => w'.cell? ⟨gb112, 0, none⟩ = some (.int .u64 a1_0) ∧ w'.cell? ⟨gb112, 1, none⟩ = some (.int .u32 a1_1) ∧ w'.cell? ⟨gb112, 2, none⟩ = some (.slice A1_2 l1_2.length c1_2) ∧ w'.cell? ⟨gb112, 3, none⟩ = some (.int .u64 a1_3) ∧ w'.cell? (ad121.add ((x7_1).toNat * 4)) = some (.int .u64 ((rd_T29 l0 x7_1).f0.f0)) ∧ w'.cell? ⟨(ad121.add ((x7_1).toNat * 4)).block, (ad121.add ((x7_1).toNat * 4)).off + 1, none⟩ = some (.int .u32 ((rd_T29 l0 x7_1).f0.f1)) ∧ w'.cell? ⟨(ad121.add ((x7_1).toNat * 4)).block, (ad121.add ((x7_1).toNat * 4)).off + 2, none⟩ = some (.slice A121_2 ((rd_T29 l0 x7_1).f1).length c121_2) ∧ w'.cell? ⟨(ad121.add ((x7_1).toNat * 4)).block, (ad121.add ((x7_1).toNat * 4)).off + 3, none⟩ = some (.int .u64 ((rd_T29 l0 x7_1).f2))) (ds := []) #[false, false, false, false, false, false, false, false] (by kernel_rfl) rfl rfl ⟨(blk_cell BK112.out 0).trans rfl, (blk_cell BK112.out 1).trans rfl, (blk_cell BK112.out 2).trans rfl, (blk_cell BK112.out 3).trans rfl, hx121_0, hx121_1, hx121_2, hx121_3⟩ (fun hHeld => ?_); refine with_tabW hayloftref10_Put.tab9 hayloftref10_Put.bits9 (fun HT_ HW_ => ?_)
                      generalize w23.drew = w24 at HO_0 HO_113002 HO120 BK112 HB HL121_2 HR121_2 hx121_0 hx121_1 hx121_2 hx121_3 hHeld ⊢
                      refine pure_ (i := 0) (N := some 31) (v := ?_) (a' := ?_) #[true, false, false, false, false, false, false, false] rfl rfl (any_of HT_.out (by kernel_rfl)) (fun _ _ _ h => h) (Or.inl ⟨by rfl, ?_⟩) ?_ ?_
                      rotate_left
                      · intro w'
                        go_simp
                        with_reducible rfl
                      rotate_left
                      · simp only [Act.put, List.setIfInBounds_toArray, List.set_cons_zero, List.set_cons_succ, i64_w, i32_w]
                        rfl
                      refine pure_ (i := 1) (N := some 32) (v := ?_) (a' := ?_) #[true, true, false, false, false, false, false, false] rfl rfl (any_of HT_.out (by kernel_rfl)) (fun _ _ _ h => h) (Or.inl ⟨by rfl, ?_⟩) ?_ ?_
                      rotate_left
                      · intro w'
                        go_simp
                        with_reducible rfl
                      rotate_left
                      · simp only [Act.put, List.setIfInBounds_toArray, List.set_cons_zero, List.set_cons_succ, i64_w, i32_w]
                        rfl
                      refine pure_ (i := 2) (N := some 33) (v := ?_) (a' := ?_) #[true, true, true, false, false, false, false, false] rfl rfl (any_of HT_.out (by kernel_rfl)) (fun _ _ _ h => h) (Or.inl ⟨by rfl, ?_⟩) ?_ ?_
                      rotate_left
                      · intro w'
                        go_simp
                        with_reducible rfl
                      rotate_left
                      · simp only [Act.put, List.setIfInBounds_toArray, List.set_cons_zero, List.set_cons_succ, i64_w, i32_w]
                        rfl
                      refine pure_ (i := 3) (N := some 34) (v := ?_) (a' := ?_) #[true, true, true, true, false, false, false, false] rfl rfl (any_of HT_.out (by kernel_rfl)) (fun _ _ _ h => h) (Or.inl ⟨by rfl, ?_⟩) ?_ ?_
                      rotate_left
                      · intro w'
                        go_simp
                        with_reducible rfl
                      rotate_left
                      · simp only [Act.put, List.setIfInBounds_toArray, List.set_cons_zero, List.set_cons_succ, i64_w, i32_w]
                        rfl
                      refine pure_ (i := 5) (N := some 36) (v := ?_) (a' := ?_) #[true, true, true, true, false, true, false, false] rfl rfl (any_of HT_.out (by kernel_rfl)) (fun _ _ _ h => h) (Or.inl ⟨by rfl, ?_⟩) ?_ ?_
                      rotate_left
                      · intro w'
                        go_simp
                        with_reducible rfl
                      rotate_left
                      · simp only [Act.put, List.setIfInBounds_toArray, List.set_cons_zero, List.set_cons_succ, i64_w, i32_w]
                        rfl
                      refine take_ (i := 4) (N := some 35) (v := ?_) (a' := ?_) #[true, true, true, true, true, true, false, false] rfl rfl (take_ofW HT_.out HW_.out (by kernel_rfl)) (fun _ _ _ h => h) (Or.inl ⟨by rfl, ?_⟩) hHeld ?_ ?_
                      rotate_left
                      · rintro w' ⟨s0, s1, s2, s3, s4, s5, s6, s7⟩
                        go_simp
                        with_reducible rfl
                      rotate_left
                      · simp only [Act.put, List.setIfInBounds_toArray, List.set_cons_zero, List.set_cons_succ, i64_w, i32_w]
                        rfl
                      refine take_ (i := 6) (N := some 37) (v := ?_) (a' := ?_) #[true, true, true, true, true, true, true, false] rfl rfl (take_ofW HT_.out HW_.out (by kernel_rfl)) (fun _ _ _ h => h) (Or.inl ⟨by rfl, ?_⟩) hHeld ?_ ?_
                      rotate_left
                      · rintro w' ⟨s0, s1, s2, s3, s4, s5, s6, s7⟩
                        go_simp
                        with_reducible rfl
                      rotate_left
                      · simp only [Act.put, List.setIfInBounds_toArray, List.set_cons_zero, List.set_cons_succ, i64_w, i32_w]
                        rfl
                      refine pure_ (i := 7) (N := some 38) (v := ?_) (a' := ?_) #[true, true, true, true, true, true, true, true] rfl rfl (any_of HT_.out (by kernel_rfl)) (fun _ _ _ h => h) (Or.inl ⟨by rfl, ?_⟩) ?_ ?_
                      rotate_left
                      · intro w'
                        go_simp
                        with_reducible rfl
                      rotate_left
                      · simp only [Act.put, List.setIfInBounds_toArray, List.set_cons_zero, List.set_cons_succ, i64_w, i32_w]
                        rfl
                      refine done_ (done_of HT_.out (by kernel_rfl)) ?_
                      try go_wp2
                      go_roundg kj4
                      case measure => have := HK1.out; have := HJ4.out; omega
                      case rel => exact ⟨(y118), (true), (wrap64 (x7_1 + 1)), (by first | rfl | (simp; done) | (simp [*]; done)), (by first | rfl | (simp; done) | (simp [*]; done)), H', ⟨by have := HK1.out; have := HJ4.out; omega⟩, ⟨by (with_reducible repeat (first | apply Kd.V_alloc | apply Kd.V_drewN | apply Kd.V_drew)); exact Kd.V_mono HO_0.out (fun _ hk => ⟨hk.1.1, ⟨hk.2, hk.1.2⟩⟩)⟩, ⟨by (with_reducible repeat (first | apply Kd.N_alloc | apply Kd.N_drewN | apply Kd.N_drew)); exact HO120.out⟩, ⟨by (with_reducible repeat (first | apply Kd.V_alloc | apply Kd.V_drewN | apply Kd.V_drew)); exact Kd.V_mono HO_113002.out (fun _ hk => ⟨hk.1.1, ⟨hk.2, hk.1.2⟩⟩)⟩, ⟨by (with_reducible repeat (first | refine blk_drewN ?_ _ | refine blk_drew ?_ | refine blk_alloc ?_ _)); exact BK112.out⟩, ⟨by repeat (first | (with_reducible first | exact HB.out | apply below_alloc | apply pw_below_drewN | apply below_drew1 | refine below_set ?_ GE112.out) | exact HB.out)⟩⟩
                  · rw [if_neg c15] at H
                    exact absurd H (by simp)
                · rw [if_neg c14] at H
                  exact absurd H (by simp)
              · rw [if_neg c13] at H
                exact absurd H (by simp)
            · replace c12 := Bool.eq_false_iff.mpr c12
              subst c12
              have H1 : (if 0 ≤ x7_1 then (if x7_1 < (l0.length : Int) then (if (!(((rd_T29 l0 x7_1).f0.f0) == a1_0) || (!(((rd_T29 l0 x7_1).f0.f1) == a1_1))) = true then (if x5_1.length < 2932031007402 then (hayloftref10_Put.l0 kj4 l0 (x5_1 ++ [(⟨(⟨(rd_T29 l0 x7_1).f0.f0, (rd_T29 l0 x7_1).f0.f1⟩ : S25), (rd_T29 l0 x7_1).f1, (rd_T29 l0 x7_1).f2⟩ : S29)]) x6_1 (wrap64 (x7_1 + 1)) a1_0 a1_1 l1_2 a1_3) else (none)) else (hayloftref10_Put.l0 kj4 l0 x5_1 x6_1 (wrap64 (x7_1 + 1)) a1_0 a1_1 l1_2 a1_3)) else (none)) else (none)) = some r := by rw [if_neg (show ¬ (false = true) by decide)] at H; exact H
              clear H
              have H := H1
              clear H1
              by_cases c25 : 0 ≤ x7_1
              · rw [if_pos c25] at H
                have c25b0 : decide (0 ≤ x7_1) = true := decide_eq_true c25
                clear c25
                by_cases c26 : x7_1 < (l0.length : Int)
                · rw [if_pos c26] at H
                  have c26b0 : decide (x7_1 < (l0.length : Int)) = true := decide_eq_true c26
                  clear c26
                  by_cases c27 : (!(((rd_T29 l0 x7_1).f0.f0) == a1_0) || (!(((rd_T29 l0 x7_1).f0.f1) == a1_1))) = true
                  · rw [if_pos c27] at H
                    have c27b0 : (!(((rd_T29 l0 x7_1).f0.f0) == a1_0) || (!(((rd_T29 l0 x7_1).f0.f1) == a1_1))) = true := c27
                    clear c27
                    by_cases c28 : x5_1.length < 2932031007402
                    · rw [if_pos c28] at H
                      have LMc28 := Aside0.mk c28
                      clear c28
                      obtain ⟨y128, hy128⟩ : ∃ y_ : List (S29), y_ = (x5_1 ++ [(⟨(⟨(rd_T29 l0 x7_1).f0.f0, (rd_T29 l0 x7_1).f0.f1⟩ : S25), (rd_T29 l0 x7_1).f1, (rd_T29 l0 x7_1).f2⟩ : S29)]) := ⟨_, rfl⟩
                      replace H : (hayloftref10_Put.l0 kj4 l0 y128 x6_1 (wrap64 (x7_1 + 1)) a1_0 a1_1 l1_2 a1_3) = some r := by first | (rw [hy128]; with_reducible exact H) | (have H2_ := (Option.bind_some _ _).symm.trans H; rw [hy128]; with_reducible exact H2_) | (have H2_ := (Option.bind_some _ _).symm.trans H; with_reducible exact H2_) | with_reducible exact H | (rw [hy128]; exact H) | exact H
                      have Ny128 := Aside0.mk hy128
                      clear hy128
                      have H' := Aside0.mk H
                      clear H
                      try go_wp2
                      have n0_ := Aside0.mk (Kd.V_drew HO_0.out)
                      have n1_ := Aside0.mk (Kd.N_drew HO_5.out)
                      have n2_ := Aside0.mk (Kd.V_drew HO_113002.out)
                      have n3_ := Aside0.mk (blk_drew BK112.out)
                      have n4_ := Aside0.mk (below_drew1 HB.out)
                      clear HO_0
                      clear HO_5
                      clear HO_113002
                      clear BK112
                      clear HB
                      have HO_0 := n0_
                      have HO_5 := n1_
                      have HO_113002 := n2_
                      have BK112 := n3_
                      have HB := n4_
                      clear n0_ n1_ n2_ n3_ n4_
                      have p126 : 0 ≤ (x7_1 : Int) := of_decide_eq_true (by first | (with_reducible assumption) | assumption)
                      have q126 : x7_1 < (l0.length : Int) := of_decide_eq_true (by first | (with_reducible assumption) | assumption)
                      obtain ⟨ad126, A126_2, c126_2, e126, hx126_0, hx126_1, hx126_2, hx126_3, hl126_2, hi126_2⟩ := at_T29 (Kd.V_reads' HO_0.out).2.2 x7_1 p126 q126
                      cases e126
                      obtain ⟨ce126, hce126, hMe126, hcc126⟩ := Kd.V_get HO_0.out z29 x7_1 p126 (by first | exact q126 | exact of_decide_eq_true (by first | (with_reducible assumption) | assumption) | (have e_ := (Kd.V_reads' HO_0.out).1; omega))
                      obtain ⟨ua126_2, uc126_2, rfl, ul126_2, ge126_2⟩ := k29_openF hMe126
                      have hv126_2 := hcc126 2 _ rfl
                      rw [add_field _ _ 2 (by omega)] at hv126_2
                      replace hv126_2 := Option.some.inj (hv126_2.symm.trans hx126_2)
                      injection hv126_2 with hva_ hvn_ hvc_
                      rw [hva_] at ge126_2
                      rw [hvc_] at ul126_2
                      have HL126_2 := Aside0.mk (show Kd.V k69 69 _ w.heap.size _ _ ((rd_T29 l0 x7_1).f1) from Kd.V_mk ul126_2 ge126_2)
                      clear hva_ hvn_ hvc_ ge126_2 ul126_2
                      clear hcc126 hce126
                      have HR126_2 := Aside0.mk hi126_2
                      have HC126_2 := Aside0.mk hl126_2
                      clear hi126_2 hl126_2
                      replace p126 := eq_true p126
                      replace q126 := eq_true q126
                      refine start_ (n := 8) (S := fun w' => w'.cell? ⟨gb112, 0, none⟩ = some (.int .u64 a1_0) ∧ w'.cell? ⟨gb112, 1, none⟩ = some (.int .u32 a1_1) ∧ w'.cell? ⟨gb112, 2, none⟩ = some (.slice A1_2 l1_2.length c1_2) ∧ w'.cell? ⟨gb112, 3, none⟩ = some (.int .u64 a1_3) ∧ w'.cell? (ad126.add ((x7_1).toNat * 4)) = some (.int .u64 ((rd_T29 l0 x7_1).f0.f0)) ∧ w'.cell? ⟨(ad126.add ((x7_1).toNat * 4)).block, (ad126.add ((x7_1).toNat * 4)).off + 1, none⟩ = some (.int .u32 ((rd_T29 l0 x7_1).f0.f1)) ∧ w'.cell? ⟨(ad126.add ((x7_1).toNat * 4)).block, (ad126.add ((x7_1).toNat * 4)).off + 2, none⟩ = some (.slice A126_2 ((rd_T29 l0 x7_1).f1).length c126_2) ∧ w'.cell? ⟨(ad126.add ((x7_1).toNat * 4)).block, (ad126.add ((x7_1).toNat * 4)).off + 3, none⟩ = some (.int .u64 ((rd_T29 l0 x7_1).f2))) (ds := []) #[false, false, false, false, false, false, false, false] (by kernel_rfl) rfl rfl ⟨(blk_cell BK112.out 0).trans rfl, (blk_cell BK112.out 1).trans rfl, (blk_cell BK112.out 2).trans rfl, (blk_cell BK112.out 3).trans rfl, hx126_0, hx126_1, hx126_2, hx126_3⟩ (fun hHeld => ?_); refine with_tabW hayloftref10_Put.tab9 hayloftref10_Put.bits9 (fun HT_ HW_ => ?_)
                      generalize wc.drew = w29 at HO_0 HO_5 HO_113002 BK112 HB HL126_2 HR126_2 hx126_0 hx126_1 hx126_2 hx126_3 hHeld ⊢
                      refine pure_ (i := 0) (N := some 31) (v := ?_) (a' := ?_) #[true, false, false, false, false, false, false, false] rfl rfl (any_of HT_.out (by kernel_rfl)) (fun _ _ _ h => h) (Or.inl ⟨by rfl, ?_⟩) ?_ ?_
                      rotate_left
                      · intro w'
                        go_simp
                        with_reducible rfl
                      rotate_left
                      · simp only [Act.put, List.setIfInBounds_toArray, List.set_cons_zero, List.set_cons_succ, i64_w, i32_w]
                        rfl
                      refine pure_ (i := 1) (N := some 32) (v := ?_) (a' := ?_) #[true, true, false, false, false, false, false, false] rfl rfl (any_of HT_.out (by kernel_rfl)) (fun _ _ _ h => h) (Or.inl ⟨by rfl, ?_⟩) ?_ ?_
                      rotate_left
                      · intro w'
                        go_simp
                        with_reducible rfl
                      rotate_left
                      · simp only [Act.put, List.setIfInBounds_toArray, List.set_cons_zero, List.set_cons_succ, i64_w, i32_w]
                        rfl
                      refine pure_ (i := 2) (N := some 33) (v := ?_) (a' := ?_) #[true, true, true, false, false, false, false, false] rfl rfl (any_of HT_.out (by kernel_rfl)) (fun _ _ _ h => h) (Or.inl ⟨by rfl, ?_⟩) ?_ ?_
                      rotate_left
                      · intro w'
                        go_simp
                        with_reducible rfl
                      rotate_left
                      · simp only [Act.put, List.setIfInBounds_toArray, List.set_cons_zero, List.set_cons_succ, i64_w, i32_w]
                        rfl
                      refine pure_ (i := 3) (N := some 34) (v := ?_) (a' := ?_) #[true, true, true, true, false, false, false, false] rfl rfl (any_of HT_.out (by kernel_rfl)) (fun _ _ _ h => h) (Or.inl ⟨by rfl, ?_⟩) ?_ ?_
                      rotate_left
                      · intro w'
                        go_simp
                        with_reducible rfl
                      rotate_left
                      · simp only [Act.put, List.setIfInBounds_toArray, List.set_cons_zero, List.set_cons_succ, i64_w, i32_w]
                        rfl
                      refine pure_ (i := 5) (N := some 36) (v := ?_) (a' := ?_) #[true, true, true, true, false, true, false, false] rfl rfl (any_of HT_.out (by kernel_rfl)) (fun _ _ _ h => h) (Or.inl ⟨by rfl, ?_⟩) ?_ ?_
                      rotate_left
                      · intro w'
                        go_simp
                        with_reducible rfl
                      rotate_left
                      · simp only [Act.put, List.setIfInBounds_toArray, List.set_cons_zero, List.set_cons_succ, i64_w, i32_w]
                        rfl
                      refine take_ (i := 4) (N := some 35) (v := ?_) (a' := ?_) #[true, true, true, true, true, true, false, false] rfl rfl (take_ofW HT_.out HW_.out (by kernel_rfl)) (fun _ _ _ h => h) (Or.inl ⟨by rfl, ?_⟩) hHeld ?_ ?_
                      rotate_left
                      · rintro w' ⟨s0, s1, s2, s3, s4, s5, s6, s7⟩
                        go_simp
                        with_reducible rfl
                      rotate_left
                      · simp only [Act.put, List.setIfInBounds_toArray, List.set_cons_zero, List.set_cons_succ, i64_w, i32_w]
                        rfl
                      refine take_ (i := 6) (N := some 37) (v := ?_) (a' := ?_) #[true, true, true, true, true, true, true, false] rfl rfl (take_ofW HT_.out HW_.out (by kernel_rfl)) (fun _ _ _ h => h) (Or.inl ⟨by rfl, ?_⟩) hHeld ?_ ?_
                      rotate_left
                      · rintro w' ⟨s0, s1, s2, s3, s4, s5, s6, s7⟩
                        go_simp
                        with_reducible rfl
                      rotate_left
                      · simp only [Act.put, List.setIfInBounds_toArray, List.set_cons_zero, List.set_cons_succ, i64_w, i32_w]
                        rfl
                      refine pure_ (i := 7) (N := some 38) (v := ?_) (a' := ?_) #[true, true, true, true, true, true, true, true] rfl rfl (any_of HT_.out (by kernel_rfl)) (fun _ _ _ h => h) (Or.inl ⟨by rfl, ?_⟩) ?_ ?_
                      rotate_left
                      · intro w'
                        go_simp
                        with_reducible rfl
                      rotate_left
                      · simp only [Act.put, List.setIfInBounds_toArray, List.set_cons_zero, List.set_cons_succ, i64_w, i32_w]
                        rfl
                      refine done_ (done_of HT_.out (by kernel_rfl)) ?_
                      have p127 : 0 ≤ (x7_1 : Int) := of_decide_eq_true (by first | (with_reducible assumption) | assumption)
                      have q127 : x7_1 < (l0.length : Int) := of_decide_eq_true (by first | (with_reducible assumption) | assumption)
                      obtain ⟨ad127, A127_2, c127_2, e127, hx127_0, hx127_1, hx127_2, hx127_3, hl127_2, hi127_2⟩ := at_T29 (Kd.V_reads' HO_0.out).2.2 x7_1 p127 q127
                      obtain rfl : ad126 = ad127 := (by injection e127)
                      obtain ⟨ce127, hce127, hMe127, hcc127⟩ := Kd.V_get HO_0.out z29 x7_1 p127 (by first | exact q127 | exact of_decide_eq_true (by first | (with_reducible assumption) | assumption) | (have e_ := (Kd.V_reads' HO_0.out).1; omega))
                      obtain ⟨ua127_2, uc127_2, rfl, ul127_2, ge127_2⟩ := k29_openF hMe127
                      have hv127_2 := hcc127 2 _ rfl
                      rw [add_field _ _ 2 (by omega)] at hv127_2
                      replace hv127_2 := Option.some.inj (hv127_2.symm.trans hx127_2)
                      injection hv127_2 with hva_ hvn_ hvc_
                      rw [hva_] at ge127_2
                      rw [hvc_] at ul127_2
                      have HL127_2 := Aside0.mk (show Kd.V k69 69 _ w.heap.size _ _ ((rd_T29 l0 x7_1).f1) from Kd.V_mk ul127_2 ge127_2)
                      clear hva_ hvn_ hvc_ ge127_2 ul127_2
                      clear hcc127 hce127
                      have HR127_2 := Aside0.mk hi127_2
                      have HC127_2 := Aside0.mk hl127_2
                      clear hi127_2 hl127_2
                      replace p127 := eq_true p127
                      replace q127 := eq_true q127
                      have ea_ := Option.some.inj (hx126_2.symm.trans hx127_2)
                      injection ea_ with ea_ en_ ec_
                      subst ea_
                      subst ec_
                      clear en_
                      try go_wp2_with (first | ((with_reducible refine gate_builtin (b := .append) (xs := #[.tmp 39, .tmp 44]) rfl ?_); at_builtin; refine Kd.N_append k29 (w0 := w) w.heap.size rfl (.tmp 39) (.tmp 44) 38 29 (.agg #[(.int .u64 0), (.int .u32 0), (.slice none 0 0), (.int .u64 0)]) 48 rfl Try.underlying38 info29 rfl (by decide) (by omega) u5 x5_1 (⟨(⟨(rd_T29 l0 x7_1).f0.f0, (rd_T29 l0 x7_1).f0.f1⟩ : S25), (rd_T29 l0 x7_1).f1, (rd_T29 l0 x7_1).f2⟩ : S29) [.int .u64 ((rd_T29 l0 x7_1).f0.f0), .int .u32 ((rd_T29 l0 x7_1).f0.f1), .slice A126_2 ((rd_T29 l0 x7_1).f1).length c126_2, .int .u64 ((rd_T29 l0 x7_1).f2)] (fun k_ => ((P0_ k_ ∨ P1_2_ k_) ∨ w.heap.size ≤ k_) ∧ k_ ≠ gb112) (fun k_ => ((fun k_ => ((P0_ k_ ∨ P1_2_ k_) ∨ w.heap.size ≤ k_) ∧ k_ ≠ gb112)) k_ ∧ some k_ ≠ (u5 : Value).ownBlock) rfl rfl ?aP (fun _ hk => hk) ?aF ?aO ?aB ?aS ?aL ?_; (case aP => exact (k29_mkF _ _ (⟨(⟨(rd_T29 l0 x7_1).f0.f0, (rd_T29 l0 x7_1).f0.f1⟩ : S25), (rd_T29 l0 x7_1).f1, (rd_T29 l0 x7_1).f2⟩ : S29) (Kd.V_reads' (Kd.V_mono (ok' := (fun k_ => ((fun k_ => ((P0_ k_ ∨ P1_2_ k_) ∨ w.heap.size ≤ k_) ∧ k_ ≠ gb112)) k_ ∧ some k_ ≠ (u5 : Value).ownBlock)) (HL127_2.out) (fun k_ hk => ⟨⟨hk.1, hk.2.2⟩, hk.2.1⟩))).2.1 (Kd.V_F (Kd.V_mono (ok' := (fun k_ => ((fun k_ => ((P0_ k_ ∨ P1_2_ k_) ∨ w.heap.size ≤ k_) ∧ k_ ≠ gb112)) k_ ∧ some k_ ≠ (u5 : Value).ownBlock)) (HL127_2.out) (fun k_ hk => ⟨⟨hk.1, hk.2.2⟩, hk.2.1⟩))))); (case aB => exact (by repeat (first | (with_reducible first | exact HB.out | apply below_alloc | apply pw_below_drewN | apply below_drew1 | refine below_set ?_ GE112.out) | exact HB.out))); (case aF => exact (fun k_ hk => ⟨(.inr (Nat.le_trans (below_size (by repeat (first | (with_reducible first | exact HB.out | apply below_alloc | apply pw_below_drewN | apply below_drew1 | refine below_set ?_ GE112.out) | exact HB.out))) hk)), Kd.freshB (g := gb112) (o := .cells #[.int .u64 a1_0, .int .u32 a1_1, .slice A1_2 l1_2.length c1_2, .int .u64 a1_3] 29 (0, 0)) (by (with_reducible repeat (first | refine blk_drewN ?_ _ | refine blk_drew ?_ | refine blk_alloc ?_ _)); exact BK112.out) k_ hk⟩)); (case aO => exact (by (with_reducible repeat (first | apply Kd.N_alloc | apply Kd.N_drewN | apply Kd.N_drew)); exact HO_5.out)); (case aS => exact (below_size (by repeat (first | (with_reducible first | exact HB.out | apply below_alloc | apply pw_below_drewN | apply below_drew1 | refine below_set ?_ GE112.out) | exact HB.out)))); (case aL => have := LMc28.out; omega); intro v129 w30 ho hb hg hat; rw [← Ny128.out] at ho; have n0_ := Aside0.mk (Kd.V_afterv (ok := (fun k_ => ((P0_ k_ ∨ P1_2_ k_) ∨ w.heap.size ≤ k_) ∧ k_ ≠ gb112)) (by (with_reducible repeat (first | apply Kd.V_alloc | apply Kd.V_drewN | apply Kd.V_drew)); exact Kd.V_mono HO_0.out (fun _ hk => ⟨⟨hk.1, hk.2.2⟩, hk.2.1⟩)) hg hat); have n1_ := Aside0.mk (Kd.V_afterv (ok := (fun k_ => ((P0_ k_ ∨ P1_2_ k_) ∨ w.heap.size ≤ k_) ∧ k_ ≠ gb112)) (by (with_reducible repeat (first | apply Kd.V_alloc | apply Kd.V_drewN | apply Kd.V_drew)); exact Kd.V_mono HO_113002.out (fun _ hk => ⟨⟨hk.1, hk.2.2⟩, hk.2.1⟩)) hg hat); have n2_ := Aside0.mk (blk_grown (g := gb112) (o := .cells #[.int .u64 a1_0, .int .u32 a1_1, .slice A1_2 l1_2.length c1_2, .int .u64 a1_3] 29 (0, 0)) (by (with_reducible repeat (first | refine blk_drewN ?_ _ | refine blk_drew ?_ | refine blk_alloc ?_ _)); exact BK112.out) hg (Kd.N_away HO_5.out (fun _ hk => hk.2))); have n3_ := Aside0.mk (Kd.V_afterv (ok := (fun k_ => ((P0_ k_ ∨ P1_2_ k_) ∨ w.heap.size ≤ k_) ∧ k_ ≠ gb112)) (by (with_reducible repeat (first | apply Kd.V_alloc | apply Kd.V_drewN | apply Kd.V_drew)); exact Kd.V_mono HL126_2.out (fun _ hk => ⟨⟨hk.1, hk.2.2⟩, hk.2.1⟩)) hg hat); have n4_ := Aside0.mk (Kd.V_afterv (ok := (fun k_ => ((P0_ k_ ∨ P1_2_ k_) ∨ w.heap.size ≤ k_) ∧ k_ ≠ gb112)) (by (with_reducible repeat (first | apply Kd.V_alloc | apply Kd.V_drewN | apply Kd.V_drew)); exact Kd.V_mono HL127_2.out (fun _ hk => ⟨⟨hk.1, hk.2.2⟩, hk.2.1⟩)) hg hat); have n5_ := Aside0.mk (hb); have n6_ := Aside0.mk (ho); clear HO_0; clear HO_113002; clear BK112; clear HL126_2; clear HL127_2; clear HB; clear HO_5; have HO_0 := n0_; have HO_113002 := n1_; have BK112 := n2_; have HL126_2 := n3_; have HL127_2 := n4_; have HB := n5_; have HO130 := n6_; clear n0_ n1_ n2_ n3_ n4_ n5_ n6_; clear ho hb hg hat))
                      go_roundg kj4
                      case measure => have := HK1.out; have := HJ4.out; omega
                      case rel => exact ⟨(y128), (x6_1), (wrap64 (x7_1 + 1)), (by first | rfl | (simp; done) | (simp [*]; done)), (by first | rfl | (simp; done) | (simp [*]; done)), H', ⟨by have := HK1.out; have := HJ4.out; omega⟩, ⟨by (with_reducible repeat (first | apply Kd.V_alloc | apply Kd.V_drewN | apply Kd.V_drew)); exact Kd.V_mono HO_0.out (fun _ hk => ⟨hk.1.1, ⟨hk.2, hk.1.2⟩⟩)⟩, ⟨by (with_reducible repeat (first | apply Kd.N_alloc | apply Kd.N_drewN | apply Kd.N_drew)); exact HO130.out⟩, ⟨by (with_reducible repeat (first | apply Kd.V_alloc | apply Kd.V_drewN | apply Kd.V_drew)); exact Kd.V_mono HO_113002.out (fun _ hk => ⟨hk.1.1, ⟨hk.2, hk.1.2⟩⟩)⟩, ⟨by (with_reducible repeat (first | refine blk_drewN ?_ _ | refine blk_drew ?_ | refine blk_alloc ?_ _)); exact BK112.out⟩, ⟨by repeat (first | (with_reducible first | exact HB.out | apply below_alloc | apply pw_below_drewN | apply below_drew1 | refine below_set ?_ GE112.out) | exact HB.out)⟩⟩
                    · rw [if_neg c28] at H
                      exact absurd H (by simp)
                  · rw [if_neg c27] at H
                    have c27b0 : (!(((rd_T29 l0 x7_1).f0.f0) == a1_0) || (!(((rd_T29 l0 x7_1).f0.f1) == a1_1))) = false := by simpa using c27
                    clear c27
                    have H' := Aside0.mk H
                    clear H
                    try go_wp2
                    have n0_ := Aside0.mk (Kd.V_drew HO_0.out)
                    have n1_ := Aside0.mk (Kd.N_drew HO_5.out)
                    have n2_ := Aside0.mk (Kd.V_drew HO_113002.out)
                    have n3_ := Aside0.mk (blk_drew BK112.out)
                    have n4_ := Aside0.mk (below_drew1 HB.out)
                    clear HO_0
                    clear HO_5
                    clear HO_113002
                    clear BK112
                    clear HB
                    have HO_0 := n0_
                    have HO_5 := n1_
                    have HO_113002 := n2_
                    have BK112 := n3_
                    have HB := n4_
                    clear n0_ n1_ n2_ n3_ n4_
                    have p126 : 0 ≤ (x7_1 : Int) := of_decide_eq_true (by first | (with_reducible assumption) | assumption)
                    have q126 : x7_1 < (l0.length : Int) := of_decide_eq_true (by first | (with_reducible assumption) | assumption)
                    obtain ⟨ad126, A126_2, c126_2, e126, hx126_0, hx126_1, hx126_2, hx126_3, hl126_2, hi126_2⟩ := at_T29 (Kd.V_reads' HO_0.out).2.2 x7_1 p126 q126
                    cases e126
                    obtain ⟨ce126, hce126, hMe126, hcc126⟩ := Kd.V_get HO_0.out z29 x7_1 p126 (by first | exact q126 | exact of_decide_eq_true (by first | (with_reducible assumption) | assumption) | (have e_ := (Kd.V_reads' HO_0.out).1; omega))
                    obtain ⟨ua126_2, uc126_2, rfl, ul126_2, ge126_2⟩ := k29_openF hMe126
                    have hv126_2 := hcc126 2 _ rfl
                    rw [add_field _ _ 2 (by omega)] at hv126_2
                    replace hv126_2 := Option.some.inj (hv126_2.symm.trans hx126_2)
                    injection hv126_2 with hva_ hvn_ hvc_
                    rw [hva_] at ge126_2
                    rw [hvc_] at ul126_2
                    have HL126_2 := Aside0.mk (show Kd.V k69 69 _ w.heap.size _ _ ((rd_T29 l0 x7_1).f1) from Kd.V_mk ul126_2 ge126_2)
                    clear hva_ hvn_ hvc_ ge126_2 ul126_2
                    clear hcc126 hce126
                    have HR126_2 := Aside0.mk hi126_2
                    have HC126_2 := Aside0.mk hl126_2
                    clear hi126_2 hl126_2
                    replace p126 := eq_true p126
                    replace q126 := eq_true q126
                    refine start_ (n := 8) (S := fun w' => w'.cell? ⟨gb112, 0, none⟩ = some (.int .u64 a1_0) ∧ w'.cell? ⟨gb112, 1, none⟩ = some (.int .u32 a1_1) ∧ w'.cell? ⟨gb112, 2, none⟩ = some (.slice A1_2 l1_2.length c1_2) ∧ w'.cell? ⟨gb112, 3, none⟩ = some (.int .u64 a1_3) ∧ w'.cell? (ad126.add ((x7_1).toNat * 4)) = some (.int .u64 ((rd_T29 l0 x7_1).f0.f0)) ∧ w'.cell? ⟨(ad126.add ((x7_1).toNat * 4)).block, (ad126.add ((x7_1).toNat * 4)).off + 1, none⟩ = some (.int .u32 ((rd_T29 l0 x7_1).f0.f1)) ∧ w'.cell? ⟨(ad126.add ((x7_1).toNat * 4)).block, (ad126.add ((x7_1).toNat * 4)).off + 2, none⟩ = some (.slice A126_2 ((rd_T29 l0 x7_1).f1).length c126_2) ∧ w'.cell? ⟨(ad126.add ((x7_1).toNat * 4)).block, (ad126.add ((x7_1).toNat * 4)).off + 3, none⟩ = some (.int .u64 ((rd_T29 l0 x7_1).f2))) (ds := []) #[false, false, false, false, false, false, false, false] (by kernel_rfl) rfl rfl ⟨(blk_cell BK112.out 0).trans rfl, (blk_cell BK112.out 1).trans rfl, (blk_cell BK112.out 2).trans rfl, (blk_cell BK112.out 3).trans rfl, hx126_0, hx126_1, hx126_2, hx126_3⟩ (fun hHeld => ?_); refine with_tabW hayloftref10_Put.tab9 hayloftref10_Put.bits9 (fun HT_ HW_ => ?_)
                    generalize wc.drew = w31 at HO_0 HO_5 HO_113002 BK112 HB HL126_2 HR126_2 hx126_0 hx126_1 hx126_2 hx126_3 hHeld ⊢
                    refine pure_ (i := 0) (N := some 31) (v := ?_) (a' := ?_) #[true, false, false, false, false, false, false, false] rfl rfl (any_of HT_.out (by kernel_rfl)) (fun _ _ _ h => h) (Or.inl ⟨by rfl, ?_⟩) ?_ ?_
                    rotate_left
                    · intro w'
                      go_simp
                      with_reducible rfl
                    rotate_left
                    · simp only [Act.put, List.setIfInBounds_toArray, List.set_cons_zero, List.set_cons_succ, i64_w, i32_w]
                      rfl
                    refine pure_ (i := 1) (N := some 32) (v := ?_) (a' := ?_) #[true, true, false, false, false, false, false, false] rfl rfl (any_of HT_.out (by kernel_rfl)) (fun _ _ _ h => h) (Or.inl ⟨by rfl, ?_⟩) ?_ ?_
                    rotate_left
                    · intro w'
                      go_simp
                      with_reducible rfl
                    rotate_left
                    · simp only [Act.put, List.setIfInBounds_toArray, List.set_cons_zero, List.set_cons_succ, i64_w, i32_w]
                      rfl
                    refine pure_ (i := 2) (N := some 33) (v := ?_) (a' := ?_) #[true, true, true, false, false, false, false, false] rfl rfl (any_of HT_.out (by kernel_rfl)) (fun _ _ _ h => h) (Or.inl ⟨by rfl, ?_⟩) ?_ ?_
                    rotate_left
                    · intro w'
                      go_simp
                      with_reducible rfl
                    rotate_left
                    · simp only [Act.put, List.setIfInBounds_toArray, List.set_cons_zero, List.set_cons_succ, i64_w, i32_w]
                      rfl
                    refine pure_ (i := 3) (N := some 34) (v := ?_) (a' := ?_) #[true, true, true, true, false, false, false, false] rfl rfl (any_of HT_.out (by kernel_rfl)) (fun _ _ _ h => h) (Or.inl ⟨by rfl, ?_⟩) ?_ ?_
                    rotate_left
                    · intro w'
                      go_simp
                      with_reducible rfl
                    rotate_left
                    · simp only [Act.put, List.setIfInBounds_toArray, List.set_cons_zero, List.set_cons_succ, i64_w, i32_w]
                      rfl
                    refine pure_ (i := 5) (N := some 36) (v := ?_) (a' := ?_) #[true, true, true, true, false, true, false, false] rfl rfl (any_of HT_.out (by kernel_rfl)) (fun _ _ _ h => h) (Or.inl ⟨by rfl, ?_⟩) ?_ ?_
                    rotate_left
                    · intro w'
                      go_simp
                      with_reducible rfl
                    rotate_left
                    · simp only [Act.put, List.setIfInBounds_toArray, List.set_cons_zero, List.set_cons_succ, i64_w, i32_w]
                      rfl
                    refine take_ (i := 4) (N := some 35) (v := ?_) (a' := ?_) #[true, true, true, true, true, true, false, false] rfl rfl (take_ofW HT_.out HW_.out (by kernel_rfl)) (fun _ _ _ h => h) (Or.inl ⟨by rfl, ?_⟩) hHeld ?_ ?_
                    rotate_left
                    · rintro w' ⟨s0, s1, s2, s3, s4, s5, s6, s7⟩
                      go_simp
                      with_reducible rfl
                    rotate_left
                    · simp only [Act.put, List.setIfInBounds_toArray, List.set_cons_zero, List.set_cons_succ, i64_w, i32_w]
                      rfl
                    refine take_ (i := 6) (N := some 37) (v := ?_) (a' := ?_) #[true, true, true, true, true, true, true, false] rfl rfl (take_ofW HT_.out HW_.out (by kernel_rfl)) (fun _ _ _ h => h) (Or.inl ⟨by rfl, ?_⟩) hHeld ?_ ?_
                    rotate_left
                    · rintro w' ⟨s0, s1, s2, s3, s4, s5, s6, s7⟩
                      go_simp
                      with_reducible rfl
                    rotate_left
                    · simp only [Act.put, List.setIfInBounds_toArray, List.set_cons_zero, List.set_cons_succ, i64_w, i32_w]
                      rfl
                    refine pure_ (i := 7) (N := some 38) (v := ?_) (a' := ?_) #[true, true, true, true, true, true, true, true] rfl rfl (any_of HT_.out (by kernel_rfl)) (fun _ _ _ h => h) (Or.inl ⟨by rfl, ?_⟩) ?_ ?_
                    rotate_left
                    · intro w'
                      go_simp
                      with_reducible rfl
                    rotate_left
                    · simp only [Act.put, List.setIfInBounds_toArray, List.set_cons_zero, List.set_cons_succ, i64_w, i32_w]
                      rfl
                    refine done_ (done_of HT_.out (by kernel_rfl)) ?_
                    try go_wp2
                    go_roundg kj4
                    case measure => have := HK1.out; have := HJ4.out; omega
                    case rel => exact ⟨(x5_1), (x6_1), (wrap64 (x7_1 + 1)), (by first | rfl | (simp; done) | (simp [*]; done)), (by first | rfl | (simp; done) | (simp [*]; done)), H', ⟨by have := HK1.out; have := HJ4.out; omega⟩, ⟨by (with_reducible repeat (first | apply Kd.V_alloc | apply Kd.V_drewN | apply Kd.V_drew)); exact HO_0.out⟩, ⟨by (with_reducible repeat (first | apply Kd.N_alloc | apply Kd.N_drewN | apply Kd.N_drew)); exact HO_5.out⟩, ⟨by (with_reducible repeat (first | apply Kd.V_alloc | apply Kd.V_drewN | apply Kd.V_drew)); exact HO_113002.out⟩, ⟨by (with_reducible repeat (first | refine blk_drewN ?_ _ | refine blk_drew ?_ | refine blk_alloc ?_ _)); exact BK112.out⟩, ⟨by repeat (first | (with_reducible first | exact HB.out | apply below_alloc | apply pw_below_drewN | apply below_drew1 | refine below_set ?_ GE112.out) | exact HB.out)⟩⟩
                · rw [if_neg c26] at H
                  exact absurd H (by simp)
              · rw [if_neg c25] at H
                exact absurd H (by simp)
      · rw [if_neg c4] at H
        have c4b0 : decide (x7_1 < (l0.length : Int)) = false := decide_eq_false c4
        clear c4
        by_cases c32 : x6_1 = true
        · subst c32
          have H1 : (some x5_1) = some r := by rw [if_pos rfl] at H; exact H
          clear H
          have H := H1
          clear H1
          obtain rfl := Option.some.inj H
          go_wp2
          go_ret
          exact ⟨_, by first | rfl | (simp [errW_none, errW_some] <;> rfl) | (simp [*, errW_none, errW_some] <;> rfl), by (with_reducible repeat (first | apply Kd.N_alloc | apply Kd.N_drewN | apply Kd.N_drew)); exact Kd.N_mono HO_5.out (fun _ hk => hk.1), by repeat (first | (with_reducible first | exact HB.out | apply below_alloc | apply pw_below_drewN | apply below_drew1 | refine below_set ?_ GE112.out) | exact HB.out)⟩
        · replace c32 := Bool.eq_false_iff.mpr c32
          subst c32
          have H1 : (if x5_1.length < 2932031007402 then (some (x5_1 ++ [(⟨(⟨a1_0, a1_1⟩ : S25), l1_2, a1_3⟩ : S29)])) else (none)) = some r := by rw [if_neg (show ¬ (false = true) by decide)] at H; exact H
          clear H
          have H := H1
          clear H1
          by_cases c33 : x5_1.length < 2932031007402
          · rw [if_pos c33] at H
            have LMc33 := Aside0.mk c33
            clear c33
            obtain ⟨y113, hy113⟩ : ∃ y_ : List (S29), y_ = (x5_1 ++ [(⟨(⟨a1_0, a1_1⟩ : S25), l1_2, a1_3⟩ : S29)]) := ⟨_, rfl⟩
            replace H : (some y113) = some r := by first | (rw [hy113]; with_reducible exact H) | (have H2_ := (Option.bind_some _ _).symm.trans H; rw [hy113]; with_reducible exact H2_) | (have H2_ := (Option.bind_some _ _).symm.trans H; with_reducible exact H2_) | with_reducible exact H | (rw [hy113]; exact H) | exact H
            have Ny113 := Aside0.mk hy113
            clear hy113
            obtain rfl := Option.some.inj H
            have hcz34_0 : wr.cell? ⟨gb112, 0, none⟩ = some (.int .u64 a1_0) := (blk_cell BK112.out 0).trans rfl
            have hcz34_1 : wr.cell? ⟨gb112, 1, none⟩ = some (.int .u32 a1_1) := (blk_cell BK112.out 1).trans rfl
            have hcz34_2 : wr.cell? ⟨gb112, 2, none⟩ = some (.slice A1_2 l1_2.length c1_2) := (blk_cell BK112.out 2).trans rfl
            have hcz34_3 : wr.cell? ⟨gb112, 3, none⟩ = some (.int .u64 a1_3) := (blk_cell BK112.out 3).trans rfl
            have hfz34_0 := blk_frozen BK112.out 0
            have hfz34_1 := blk_frozen BK112.out 1
            have hfz34_2 := blk_frozen BK112.out 2
            have hfz34_3 := blk_frozen BK112.out 3
            go_wp2_with (first | ((with_reducible refine gate_builtin (b := .append) (xs := #[.tmp 48, .tmp 50]) rfl ?_); at_builtin; refine Kd.N_append k29 (w0 := w) w.heap.size rfl (.tmp 48) (.tmp 50) 38 29 (.agg #[(.int .u64 0), (.int .u32 0), (.slice none 0 0), (.int .u64 0)]) 48 rfl Try.underlying38 info29 rfl (by decide) (by omega) u5 x5_1 (⟨(⟨a1_0, a1_1⟩ : S25), l1_2, a1_3⟩ : S29) [.int .u64 a1_0, .int .u32 a1_1, .slice A1_2 l1_2.length c1_2, .int .u64 a1_3] (fun k_ => ((P0_ k_ ∨ P1_2_ k_) ∨ w.heap.size ≤ k_) ∧ k_ ≠ gb112) (fun k_ => ((fun k_ => ((P0_ k_ ∨ P1_2_ k_) ∨ w.heap.size ≤ k_) ∧ k_ ≠ gb112)) k_ ∧ some k_ ≠ (u5 : Value).ownBlock) rfl rfl ?aP (fun _ hk => hk) ?aF ?aO ?aB ?aS ?aL ?_; (case aP => exact (k29_mkF _ _ (⟨(⟨a1_0, a1_1⟩ : S25), l1_2, a1_3⟩ : S29) (Kd.V_reads' (Kd.V_mono (ok' := (fun k_ => ((fun k_ => ((P0_ k_ ∨ P1_2_ k_) ∨ w.heap.size ≤ k_) ∧ k_ ≠ gb112)) k_ ∧ some k_ ≠ (u5 : Value).ownBlock)) (HO_113002.out) (fun k_ hk => ⟨⟨hk.1, hk.2.2⟩, hk.2.1⟩))).2.1 (Kd.V_F (Kd.V_mono (ok' := (fun k_ => ((fun k_ => ((P0_ k_ ∨ P1_2_ k_) ∨ w.heap.size ≤ k_) ∧ k_ ≠ gb112)) k_ ∧ some k_ ≠ (u5 : Value).ownBlock)) (HO_113002.out) (fun k_ hk => ⟨⟨hk.1, hk.2.2⟩, hk.2.1⟩))))); (case aB => exact (by repeat (first | (with_reducible first | exact HB.out | apply below_alloc | apply pw_below_drewN | apply below_drew1 | refine below_set ?_ GE112.out) | exact HB.out))); (case aF => exact (fun k_ hk => ⟨(.inr (Nat.le_trans (below_size (by repeat (first | (with_reducible first | exact HB.out | apply below_alloc | apply pw_below_drewN | apply below_drew1 | refine below_set ?_ GE112.out) | exact HB.out))) hk)), Kd.freshB (g := gb112) (o := .cells #[.int .u64 a1_0, .int .u32 a1_1, .slice A1_2 l1_2.length c1_2, .int .u64 a1_3] 29 (0, 0)) (by (with_reducible repeat (first | refine blk_drewN ?_ _ | refine blk_drew ?_ | refine blk_alloc ?_ _)); exact BK112.out) k_ hk⟩)); (case aO => exact (by (with_reducible repeat (first | apply Kd.N_alloc | apply Kd.N_drewN | apply Kd.N_drew)); exact HO_5.out)); (case aS => exact (below_size (by repeat (first | (with_reducible first | exact HB.out | apply below_alloc | apply pw_below_drewN | apply below_drew1 | refine below_set ?_ GE112.out) | exact HB.out)))); (case aL => have := LMc33.out; omega); intro v114 w35 ho hb hg hat; rw [← Ny113.out] at ho; have n0_ := Aside0.mk (Kd.V_afterv (ok := (fun k_ => ((P0_ k_ ∨ P1_2_ k_) ∨ w.heap.size ≤ k_) ∧ k_ ≠ gb112)) (by (with_reducible repeat (first | apply Kd.V_alloc | apply Kd.V_drewN | apply Kd.V_drew)); exact Kd.V_mono HO_0.out (fun _ hk => ⟨⟨hk.1, hk.2.2⟩, hk.2.1⟩)) hg hat); have n1_ := Aside0.mk (Kd.V_afterv (ok := (fun k_ => ((P0_ k_ ∨ P1_2_ k_) ∨ w.heap.size ≤ k_) ∧ k_ ≠ gb112)) (by (with_reducible repeat (first | apply Kd.V_alloc | apply Kd.V_drewN | apply Kd.V_drew)); exact Kd.V_mono HO_113002.out (fun _ hk => ⟨⟨hk.1, hk.2.2⟩, hk.2.1⟩)) hg hat); have n2_ := Aside0.mk (blk_grown (g := gb112) (o := .cells #[.int .u64 a1_0, .int .u32 a1_1, .slice A1_2 l1_2.length c1_2, .int .u64 a1_3] 29 (0, 0)) (by (with_reducible repeat (first | refine blk_drewN ?_ _ | refine blk_drew ?_ | refine blk_alloc ?_ _)); exact BK112.out) hg (Kd.N_away HO_5.out (fun _ hk => hk.2))); have n3_ := Aside0.mk (hb); have n4_ := Aside0.mk (ho); clear HO_0; clear HO_113002; clear BK112; clear HB; clear HO_5; have HO_0 := n0_; have HO_113002 := n1_; have BK112 := n2_; have HB := n3_; have HO115 := n4_; clear n0_ n1_ n2_ n3_ n4_; clear ho hb hg hat))
            go_ret
            exact ⟨_, by first | rfl | (simp [errW_none, errW_some] <;> rfl) | (simp [*, errW_none, errW_some] <;> rfl), by (with_reducible repeat (first | apply Kd.N_alloc | apply Kd.N_drewN | apply Kd.N_drew)); exact Kd.N_mono HO115.out (fun _ hk => hk.1), by repeat (first | (with_reducible first | exact HB.out | apply below_alloc | apply pw_below_drewN | apply below_drew1 | refine below_set ?_ GE112.out) | exact HB.out)⟩
          · rw [if_neg c33] at H
            exact absurd H (by simp)

end Go.Proofs.Ytacacigpendneaa.QV
/- The reference's lists of versions: Place, Put, Same: plain facts. -/
namespace Go.Proofs.Ytacacigpendneaa.QV
open Go.RowKit Go.Proofs.YtacacigpendneaaW.PrintWords Go.Proofs.Ytacacigpendneaa.Mp Go.Proofs.Ytacacigpendneaa.SeqW
set_option linter.unusedVariables false
set_option linter.unusedSimpArgs false
set_option maxRecDepth 100000
theorem wrap_succ (k : Nat) (h : k < 9223372036854775807) : wrap64 ((k : Int) + 1) = k + 1 := by unfold wrap64; omega
def ltB (a b : Nm) : Bool := decide (cmpNm a b < 0)
def neB (a b : Nm) : Bool := !decide (a = b)
def putR (d : Bool) : List Ver → Ver → List Ver
  | [], v => if d = true then [] else [v]
  | x :: xs, v => (if d = false ∧ ltB x.f0 v.f0 = false then [v] else []) ++ ((if neB x.f0 v.f0 = true then [x] else []) ++ putR (d || !ltB x.f0 v.f0) xs v)
theorem putR_mem (v : Ver) (x : Ver) : ∀ (L : List Ver) (d : Bool), x ∈ putR d L v ↔ (x ∈ L ∧ x.f0 ≠ v.f0) ∨ (d = false ∧ x = v) := by
  intro L
  induction L with
  | nil => intro d; cases d <;> simp [putR]
  | cons y ys ih =>
    intro d
    rw [putR, List.mem_append, List.mem_append, ih, List.mem_cons]
    have hne : x ∈ (if neB y.f0 v.f0 = true then [y] else []) ↔ (x = y ∧ x.f0 ≠ v.f0) := by
      unfold neB
      by_cases e : y.f0 = v.f0
      · simp [e]; rintro rfl; exact e
      · simp [e]; rintro rfl; exact e
    rw [hne]
    cases d <;> cases ltB y.f0 v.f0 <;> simp <;> (try grind)
theorem putR_len (v : Ver) : ∀ (L : List Ver) (d : Bool), (putR d L v).length ≤ L.length + 1
  | [], d => by cases d <;> simp [putR]
  | y :: ys, d => by
    have h1 := putR_len v ys (d || !ltB y.f0 v.f0)
    have h2 := putR_len' v ys
    rw [putR]
    generalize ltB y.f0 v.f0 = b at *
    cases d <;> cases b <;> cases neB y.f0 v.f0 <;> simp at h1 h2 ⊢ <;> omega
where putR_len' (v : Ver) : ∀ (L : List Ver), (putR true L v).length ≤ L.length
  | [] => by simp [putR]
  | y :: ys => by
    have h1 := putR_len' v ys
    unfold putR
    cases ltB y.f0 v.f0 <;> cases neB y.f0 v.f0 <;> simp at h1 ⊢ <;> omega
theorem cmpNm_tot {a b : Nm} (h : ¬ cmpNm a b < 0) (hne : a ≠ b) : cmpNm b a < 0 := by
  rw [cmpNm_neg] at *
  have : ¬ (a.f0 = b.f0 ∧ a.f1 = b.f1) := fun h => hne (Nm.ext' h.1 h.2)
  omega
theorem cmpNm_tr {a b c : Nm} (h : cmpNm a b < 0) (k : cmpNm b c < 0) : cmpNm a c < 0 := by
  rw [cmpNm_neg] at *; omega
def Srt (L : List Ver) : Prop := L.Pairwise (fun a b => cmpNm a.f0 b.f0 < 0)
theorem putR_srtT (v : Ver) : ∀ L, Srt L → Srt (putR true L v)
  | [], h => by simp [putR, Srt]
  | y :: ys, h => by
    obtain ⟨h1, h2⟩ := List.pairwise_cons.1 h
    have h3 := putR_srtT v ys h2
    unfold putR
    cases hn : neB y.f0 v.f0
    · simpa using h3
    · simp only [Bool.true_eq_false, false_and, if_false, if_true, List.append_eq, List.nil_append, List.cons_append, Bool.true_or]
      refine List.pairwise_cons.2 ⟨fun z hz => ?_, h3⟩
      rw [putR_mem] at hz
      rcases hz with hz | hz
      · exact h1 z hz.1
      · cases hz.1
theorem putR_srt (v : Ver) : ∀ L, Srt L → Srt (putR false L v)
  | [], h => by simp [putR, Srt]
  | y :: ys, h => by
    obtain ⟨h1, h2⟩ := List.pairwise_cons.1 h
    unfold putR
    cases hl : ltB y.f0 v.f0
    · have hl' : ¬ cmpNm y.f0 v.f0 < 0 := by simpa [ltB] using hl
      have h3 := putR_srtT v ys h2
      simp only [and_self, if_true, Bool.not_false, Bool.or_true]
      cases hn : neB y.f0 v.f0
      · have hn' : y.f0 = v.f0 := by simpa [neB] using hn
        simp only [Bool.false_eq_true, if_false, List.append_eq, List.nil_append, List.cons_append]
        refine List.pairwise_cons.2 ⟨fun z hz => ?_, h3⟩
        rw [putR_mem] at hz
        rcases hz with hz | hz
        · rw [← hn']; exact h1 z hz.1
        · cases hz.1
      · have hn' : y.f0 ≠ v.f0 := by simpa [neB] using hn
        have hv := cmpNm_tot hl' hn'
        simp only [if_true, List.append_eq, List.nil_append, List.cons_append]
        refine List.pairwise_cons.2 ⟨fun z hz => ?_, List.pairwise_cons.2 ⟨fun z hz => ?_, h3⟩⟩
        · rcases List.mem_cons.1 hz with rfl | hz
          · exact hv
          · rw [putR_mem] at hz
            rcases hz with hz | hz
            · exact cmpNm_tr hv (h1 z hz.1)
            · cases hz.1
        · rw [putR_mem] at hz
          rcases hz with hz | hz
          · exact h1 z hz.1
          · cases hz.1
    · have hl' : cmpNm y.f0 v.f0 < 0 := by simpa [ltB] using hl
      have h3 := putR_srt v ys h2
      have hn : neB y.f0 v.f0 = true := by
        unfold neB
        rw [Bool.not_eq_true', decide_eq_false_iff_not]
        intro e; rw [e, cmpNm_neg] at hl'; omega
      rw [hn]
      simp only [Bool.true_eq_false, and_false, if_false, if_true, List.append_eq, List.nil_append, List.cons_append, Bool.not_true, Bool.or_false]
      refine List.pairwise_cons.2 ⟨fun z hz => ?_, h3⟩
      rw [putR_mem] at hz
      rcases hz with hz | hz
      · exact h1 z hz.1
      · rw [hz.2]; exact hl'
/-- A function of names whose versions bear their names. -/
def Own (F : Nm → Option Ver) : Prop := ∀ k x, F k = some x → x.f0 = k
theorem Own.upd {F : Nm → Option Ver} (h : Own F) (v : Ver) : Own (updV F v.f0 (some v)) := fun k x e => by
  unfold updV at e
  split at e
  · rename_i hk; cases e; exact hk.symm
  · exact h k x e
theorem put_told {F : Nm → Option Ver} {L : List Ver} (h : IsTold F L) (hF : Own F) (v : Ver) (hv : Nok v.f0) : IsTold (updV F v.f0 (some v)) (putR false L v) := by
  refine ⟨putR_srt v L h.1, fun x hx => ?_, fun k hk hs => ?_⟩
  · rw [putR_mem] at hx
    rcases hx with ⟨h1, h2⟩ | ⟨_, rfl⟩
    · exact ⟨(h.2.1 x h1).1, by unfold updV; rw [if_neg h2]; exact (h.2.1 x h1).2⟩
    · exact ⟨hv, by unfold updV; rw [if_pos rfl]⟩
  · unfold updV at hs
    by_cases e : k = v.f0
    · exact ⟨v, (putR_mem v v L false).2 (.inr ⟨rfl, rfl⟩), e.symm⟩
    · rw [if_neg e] at hs
      obtain ⟨y, hy, hyk⟩ := h.2.2 k hk hs
      exact ⟨y, (putR_mem v y L false).2 (.inl ⟨hy, by rw [hyk]; exact e⟩), hyk⟩
theorem IsTold.has {F : Nm → Option Ver} {L : List Ver} (h : IsTold F L) (k : Nm) (hk : Nok k) : hasN L k = (F k).isSome := by
  rw [Bool.eq_iff_iff]
  constructor
  · intro hh
    unfold hasN at hh
    obtain ⟨x, hx, e⟩ := List.any_eq_true.1 hh
    have e' : x.f0 = k := by simpa using e
    rw [← e', (h.2.1 x hx).2]; rfl
  · intro hh
    obtain ⟨y, hy, e⟩ := h.2.2 k hk hh
    exact List.any_eq_true.2 ⟨y, hy, by simpa using e⟩
theorem IsTold.at_ {F : Nm → Option Ver} {L : List Ver} (h : IsTold F L) {x : Ver} (hx : x ∈ L) : F x.f0 = some x := (h.2.1 x hx).2
theorem IsTold.congr {F G : Nm → Option Ver} {L : List Ver} (h : IsTold F L) (e : ∀ k, Nok k → F k = G k) : IsTold G L :=
  ⟨h.1, fun x hx => ⟨(h.2.1 x hx).1, by rw [← e _ (h.2.1 x hx).1]; exact (h.2.1 x hx).2⟩, fun k hk hs => h.2.2 k hk (by rw [e k hk]; exact hs)⟩
theorem IsTold.first {F : Nm → Option Ver} {L : List Ver} (h : IsTold F L) (hF : Own F) (k : Nm) (hk : Nok k) : firstOf L k = F k := by
  refine Option.ext fun x => ?_
  rw [first_iff L (told_one h)]
  constructor
  · rintro ⟨hx, rfl⟩; exact h.at_ hx
  · intro hx
    obtain ⟨y, hy, e⟩ := h.2.2 k hk (by rw [hx]; rfl)
    have := h.at_ hy
    rw [e, hx] at this
    cases this
    exact ⟨hy, e⟩
theorem place_l0 (l : List Ver) (hl : l.length < 9223372036854775807) (k : Nm) : ∀ (n i : Nat), i + n = l.length → ∃ p, hayloftref10_Place.l0 (n + 1) l i k.f0 k.f1 = some p ∧ (p < 0 ↔ hasN (l.drop i) k = false) := by
  intro n
  induction n with
  | zero =>
    intro i hi
    rw [Nat.add_zero] at hi
    subst hi
    rw [hayloftref10_Place.l0, if_neg (by omega), List.drop_length]
    exact ⟨-1, rfl, by simp [hasN]⟩
  | succ n ih =>
    intro i hi
    have hil : i < l.length := by omega
    have hw : wrap64 ((i : Int) + 1) = ((i + 1 : Nat) : Int) := by rw [wrap_succ i (by omega)]; rfl
    have hg : rd_T29 l (i : Int) = l[i] := by rw [rdVer, List.getD_eq_getElem?_getD, List.getElem?_eq_getElem hil]; rfl
    rw [hayloftref10_Place.l0, if_pos (by omega), if_pos (Int.natCast_nonneg i), hw, hg, List.drop_eq_getElem_cons hil]
    have hh : hasN (l[i] :: l.drop (i + 1)) k = (decide (l[i].f0 = k) || hasN (l.drop (i + 1)) k) := rfl
    rw [hh]
    have hd : (l[i].f0.f0 == k.f0 && (l[i].f0.f1 == k.f1)) = decide (l[i].f0 = k) := by
      by_cases e : l[i].f0 = k
      · rw [e]; simp
      · have : ¬ (l[i].f0.f0 = k.f0 ∧ l[i].f0.f1 = k.f1) := fun h => e (Nm.ext' h.1 h.2)
        simp only [e, decide_false]
        rw [Bool.and_eq_false_iff, beq_eq_false_iff_ne, beq_eq_false_iff_ne]
        omega
    rw [hd]
    cases he : decide (l[i].f0 = k)
    · rw [if_neg (by simp)]
      obtain ⟨p, h1, h2⟩ := ih (i + 1) (by omega)
      exact ⟨p, h1, by simpa using h2⟩
    · rw [if_pos rfl]
      exact ⟨i, rfl, by simp⟩
theorem place_f (l : List Ver) (hl : l.length < 9223372036854775807) (k : Nm) (m : Nat) (hm : l.length + 1 ≤ m) : ∃ p, hayloftref10_Place.f m l k.f0 k.f1 = some p ∧ (p < 0 ↔ hasN l k = false) := by
  obtain ⟨p, h1, h2⟩ := place_l0 l hl k l.length 0 (by omega)
  rw [List.drop_zero] at h2
  exact ⟨p, lift' (f := fun m => hayloftref10_Place.f m l k.f0 k.f1) (fun m => hayloftref10_Place.mono _ _ _ m) (k := l.length + 1) h1 hm, h2⟩
theorem less_f (a b : Nm) : hayloftref10_Less.f a.f0 a.f1 b.f0 b.f1 = some (ltB a b) := by
  unfold hayloftref10_Less.f ltB
  split
  · rename_i h
    congr 1
    rw [decide_eq_decide, cmpNm_neg]
    omega
  · rename_i h
    congr 1
    rw [decide_eq_decide, cmpNm_neg]
    omega
theorem neB_eq (a b : Nm) : (!(a.f0 == b.f0) || !(a.f1 == b.f1)) = neB a b := by
  unfold neB
  by_cases e : a = b
  · rw [e]; simp
  · have : ¬ (a.f0 = b.f0 ∧ a.f1 = b.f1) := fun h => e (Nm.ext' h.1 h.2)
    rw [decide_eq_false e]
    by_cases h0 : a.f0 = b.f0
    · have h1 : a.f1 ≠ b.f1 := fun h => this ⟨h0, h⟩
      simp [h0, h1]
    · simp [h0]
theorem ver_eta (x : Ver) : (⟨⟨x.f0.f0, x.f0.f1⟩, x.f1, x.f2⟩ : Ver) = x := rfl
theorem put_l0 (L : List Ver) (hl : L.length + 2 < 2932031007402) (v : Ver) : ∀ (n i : Nat) (d : Bool) (acc : List Ver), i + n = L.length → acc.length ≤ i + (if d = true then 1 else 0) →
    hayloftref10_Put.l0 (2 * n + 1) L acc d i v.f0.f0 v.f0.f1 v.f1 v.f2 = some (acc ++ putR d (L.drop i) v) := by
  intro n
  induction n with
  | zero =>
    intro i d acc hi ha
    rw [Nat.add_zero] at hi
    subst hi
    rw [hayloftref10_Put.l0, if_neg (by omega), List.drop_length]
    cases d
    · rw [if_neg (by simp), if_pos (by simp at ha; omega)]; simp [putR]
    · rw [if_pos rfl]; simp [putR]
  | succ n ih =>
    intro i d acc hi ha
    have hil : i < L.length := by omega
    have hw : wrap64 ((i : Int) + 1) = ((i + 1 : Nat) : Int) := by rw [wrap_succ i (by omega)]; rfl
    have hg : rd_T29 L (i : Int) = L[i] := by rw [rdVer, List.getD_eq_getElem?_getD, List.getElem?_eq_getElem hil]; rfl
    rw [show 2 * (n + 1) + 1 = (2 * n + 1 + 1) + 1 by omega, hayloftref10_Put.l0, if_pos (by omega), hg, List.drop_eq_getElem_cons hil, putR]
    generalize hx : L[i] = x at hg
    have e0 : (0 : Int) ≤ (i : Int) := Int.natCast_nonneg i
    have e1 : (i : Int) < (L.length : Int) := by omega
    cases d with
    | true =>
      simp only [if_true] at ha
      rw [if_pos rfl, hayloftref10_Put.j1, if_neg (by simp), if_pos e0, if_pos e1, hg, hw, neB_eq x.f0 v.f0]
      cases hn : neB x.f0 v.f0
      · rw [if_neg (by simp), ih (i + 1) true acc (by omega) (by simp only [if_true]; omega)]
        simp
      · rw [if_pos rfl, if_pos (by omega), ver_eta, ih (i + 1) true (acc ++ [x]) (by omega) (by simp; omega)]
        simp
    | false =>
      simp only [Bool.false_eq_true, if_false, Nat.add_zero] at ha
      rw [if_neg (by simp), if_pos e0, less_f x.f0 v.f0, Option.bind_some, hayloftref10_Put.j1]
      cases hlt : ltB x.f0 v.f0
      · rw [if_pos (show (!false) = true from rfl), if_pos (by omega), Option.bind_some, ver_eta, if_pos e0, if_pos e1, hg, hw, neB_eq x.f0 v.f0]
        cases hn : neB x.f0 v.f0
        · rw [if_neg (by simp), ih (i + 1) true (acc ++ [v]) (by omega) (by simp; omega)]
          simp
        · rw [if_pos rfl, if_pos (by simp; omega), ver_eta, ih (i + 1) true (acc ++ [v] ++ [x]) (by omega) (by simp; omega)]
          simp
      · rw [if_neg (show ¬ (!true) = true by decide), if_pos e0, if_pos e1, hg, hw, neB_eq x.f0 v.f0]
        cases hn : neB x.f0 v.f0
        · rw [if_neg (by simp), ih (i + 1) false acc (by omega) (by simp; omega)]
          simp
        · rw [if_pos rfl, if_pos (by omega), ver_eta, ih (i + 1) false (acc ++ [x]) (by omega) (by simp; omega)]
          simp
theorem put_f (L : List Ver) (hl : L.length + 2 < 2932031007402) (v : Ver) (m : Nat) (hm : 2 * L.length + 1 ≤ m) : hayloftref10_Put.f m L v.f0.f0 v.f0.f1 v.f1 v.f2 = some (putR false L v) := by
  refine lift' (f := fun m => hayloftref10_Put.f m L v.f0.f0 v.f0.f1 v.f1 v.f2) (fun m => hayloftref10_Put.mono _ _ _ _ _ m) (k := 2 * L.length + 1) ?_ hm
  show hayloftref10_Put.f _ _ _ _ _ _ = _
  unfold hayloftref10_Put.f
  have := put_l0 L hl v L.length 0 false [] (by omega) (Nat.zero_le _)
  rw [List.drop_zero, List.nil_append] at this
  exact this
/-- Place tells where the first of that name stands. -/
theorem placeg_l0 (l : List Ver) (hl : l.length < 9223372036854775807) (k : Nm) : ∀ (n i : Nat), i + n = l.length → ∃ p, hayloftref10_Place.l0 (n + 1) l i k.f0 k.f1 = some p ∧ (match firstOf (l.drop i) k with | none => p < 0 | some x => 0 ≤ p ∧ p < (l.length : Int) ∧ rd_T29 l p = x) := by
  intro n
  induction n with
  | zero =>
    intro i hi
    rw [Nat.add_zero] at hi
    subst hi
    rw [hayloftref10_Place.l0, if_neg (by omega), List.drop_length]
    exact ⟨-1, rfl, by simp [firstOf]⟩
  | succ n ih =>
    intro i hi
    have hil : i < l.length := by omega
    have hw : wrap64 ((i : Int) + 1) = ((i + 1 : Nat) : Int) := by rw [wrap_succ i (by omega)]; rfl
    have hg : rd_T29 l (i : Int) = l[i] := by rw [rdVer, List.getD_eq_getElem?_getD, List.getElem?_eq_getElem hil]; rfl
    rw [hayloftref10_Place.l0, if_pos (by omega), if_pos (Int.natCast_nonneg i), hw, List.drop_eq_getElem_cons hil]
    have hfo : firstOf (l[i] :: l.drop (i + 1)) k = if l[i].f0 = k then some l[i] else firstOf (l.drop (i + 1)) k := by
      unfold firstOf
      rw [List.find?_cons]
      by_cases e : l[i].f0 = k <;> simp [e]
    rw [hfo]
    have hd : ((rd_T29 l (i : Int)).f0.f0 == k.f0 && ((rd_T29 l (i : Int)).f0.f1 == k.f1)) = decide (l[i].f0 = k) := by
      rw [hg]
      by_cases e : l[i].f0 = k
      · rw [e]; simp
      · have : ¬ (l[i].f0.f0 = k.f0 ∧ l[i].f0.f1 = k.f1) := fun h => e (Nm.ext' h.1 h.2)
        simp only [e, decide_false]
        rw [Bool.and_eq_false_iff, beq_eq_false_iff_ne, beq_eq_false_iff_ne]
        omega
    rw [hd]
    by_cases he : l[i].f0 = k
    · rw [if_pos (by simpa using he), if_pos he]
      exact ⟨i, rfl, Int.natCast_nonneg i, by omega, hg⟩
    · rw [if_neg (by simpa using he), if_neg he]
      exact ih (i + 1) (by omega)
theorem placeg_f (l : List Ver) (hl : l.length < 9223372036854775807) (k : Nm) (m : Nat) (hm : l.length + 1 ≤ m) : ∃ p, hayloftref10_Place.f m l k.f0 k.f1 = some p ∧ (match firstOf l k with | none => p < 0 | some x => 0 ≤ p ∧ p < (l.length : Int) ∧ rd_T29 l p = x) := by
  obtain ⟨p, h1, h2⟩ := placeg_l0 l hl k l.length 0 (by omega)
  rw [List.drop_zero] at h2
  exact ⟨p, lift' (f := fun m => hayloftref10_Place.f m l k.f0 k.f1) (fun m => hayloftref10_Place.mono _ _ _ m) (k := l.length + 1) h1 hm, h2⟩
abbrev Val := S69
theorem same_l0 (l : List Val) (hl : l.length < 9223372036854775807) (a b c a' b' c' : Int) : ∀ (n i : Nat), i + n = l.length → hayloftref10_Same.l0 (n + 1) i a b l c a' b' l c' = some true := by
  intro n
  induction n with
  | zero =>
    intro i hi
    rw [hayloftref10_Same.l0, if_neg (by omega)]
  | succ n ih =>
    intro i hi
    have hw : wrap64 ((i : Int) + 1) = ((i + 1 : Nat) : Int) := by rw [wrap_succ i (by omega)]; rfl
    rw [hayloftref10_Same.l0, if_pos (by omega), if_pos (Int.natCast_nonneg i), if_pos (by omega), hw, ih (i + 1) (by omega)]
    simp
theorem same_f (x : Ver) (hx : x.f1.length < 9223372036854775807) : hayloftref10_Same.f (x.f1.length + 2) x.f0.f0 x.f0.f1 x.f1 x.f2 x.f0.f0 x.f0.f1 x.f1 x.f2 = some true := by
  unfold hayloftref10_Same.f
  rw [if_neg (by simp), if_pos rfl, hayloftref10_Same.j0, if_neg (by simp)]
  exact same_l0 x.f1 hx _ _ _ _ _ _ x.f1.length 0 (by omega)
theorem sameAll_l0 (L : List Ver) (hL : L.length < 9223372036854775807) (F : Nat) (hF : ∀ x ∈ L, x.f1.length + 2 ≤ F) (hr : ∀ x ∈ L, x.f1.length < 9223372036854775807) : ∀ (n i : Nat), i + n = L.length → hayloftref10_SameAll.l0 (F + n + 1) L L i = some true := by
  intro n
  induction n with
  | zero =>
    intro i hi
    rw [hayloftref10_SameAll.l0, if_neg (by omega)]
  | succ n ih =>
    intro i hi
    have hw : wrap64 ((i : Int) + 1) = ((i + 1 : Nat) : Int) := by rw [wrap_succ i (by omega)]; rfl
    have hm : rd_T29 L (i : Int) ∈ L := getD_mem z29 (by omega : i < L.length)
    rw [hayloftref10_SameAll.l0, if_pos (by omega), if_pos (Int.natCast_nonneg i), if_pos (by omega), hw]
    generalize rd_T29 L (i : Int) = x at hm
    have hx := same_f x (hr x hm)
    have hx' := lift' (f := fun k => hayloftref10_Same.f k x.f0.f0 x.f0.f1 x.f1 x.f2 x.f0.f0 x.f0.f1 x.f1 x.f2) (fun k => hayloftref10_Same.mono _ _ _ _ _ _ _ _ k) hx (m := F + (n + 1)) (by have := hF x hm; omega)
    rw [show hayloftref10_Same.f (F + (n + 1)) x.f0.f0 x.f0.f1 x.f1 x.f2 x.f0.f0 x.f0.f1 x.f1 x.f2 = some true from hx', Option.bind_some, if_pos rfl]
    rw [show F + (n + 1) = F + n + 1 by omega]
    exact ih (i + 1) (by omega)
theorem row_bound : ∀ L : List Ver, ∃ F, ∀ x ∈ L, x.f1.length + 2 ≤ F
  | [] => ⟨0, fun x h => by simp at h⟩
  | a :: L => by
    obtain ⟨F, h⟩ := row_bound L
    exact ⟨F + (a.f1.length + 2), fun x hx => by
      rcases List.mem_cons.1 hx with rfl | hx
      · omega
      · have := h x hx; omega⟩
/-- From some fuel on. -/
theorem sameAll_f (L : List Ver) (hL : L.length < 9223372036854775807) (hr : ∀ x ∈ L, x.f1.length < 9223372036854775807) : ∃ K, ∀ k, K ≤ k → hayloftref10_SameAll.f k L L = some true := by
  obtain ⟨F, hF⟩ := row_bound L
  refine ⟨F + L.length + 1, fun k hk => ?_⟩
  refine lift' (f := fun k => hayloftref10_SameAll.f k L L) (fun k => hayloftref10_SameAll.mono _ _ k) (k := F + L.length + 1) ?_ hk
  show hayloftref10_SameAll.f _ L L = _
  unfold hayloftref10_SameAll.f
  rw [if_pos rfl]
  exact sameAll_l0 L hL F hF hr L.length 0 (by omega)
end Go.Proofs.Ytacacigpendneaa.QV
/- How an argument that reads as data is opened into kinds (Kd) of the print's words: whole numbers, bools, strings, structs, arrays of two and three, slices of these, at any depth; with the bounds that the row's reach and its bulk give. -/
namespace Go.Proofs.Ytacacigpendneaa.Op
open Go.RowKit Go.Proofs.YtacacigpendneaaW.PrintWords
set_option linter.unusedVariables false

def Opens {α : Type} (P : Program) (t : TypeId) (d : Kd α) (g : α → Prop) (m : α → Nat) : Prop :=
  ∀ {H : Type} (enc : TypeId × Value → H) (w : World) (base : Nat) (spare : Nat → Bool) (held : Bool) (fuel : Nat) (cs : List Value) (x : DataW H × List MemPlace),
    DataW.trod enc P w base spare held fuel t cs = some x → (∀ n ∈ x.1.weights P t, n ≤ reachBytes) → ∃ a, d.K w a cs ∧ g a ∧ m a ≤ Rows.uptoBulk x.1

theorem opens_int {P : Program} {t : TypeId} {k : IntKind} (ht : P.underlying t = some (.int k)) : Opens P t (Kd.int k) (fun n => (Lit.int k n).wf = true) (fun _ => 1) := by
  intro H enc w base spare held fuel cs x h _
  obtain ⟨n, rfl, rfl, hw⟩ := DataW.trod_int ht h
  exact ⟨n, rfl, hw, by simp [Rows.uptoBulk]⟩
theorem opens_bool {P : Program} {t : TypeId} (ht : P.underlying t = some .bool) : Opens P t Kd.bool (fun _ => True) (fun _ => 1) := by
  intro H enc w base spare held fuel cs x h _
  obtain ⟨b, rfl, rfl⟩ := DataW.trod_bool ht h
  exact ⟨b, rfl, trivial, by simp [Rows.uptoBulk]⟩
theorem opens_string {P : Program} {t : TypeId} (ht : P.underlying t = some .string) : Opens P t Kd.string (fun s => s.size ≤ 140737488351232) (fun s => s.size + 1) := by
  intro H enc w base spare held fuel cs x h hs
  obtain ⟨s, rfl, rfl, hw⟩ := DataW.trod_string ht h
  have hl : s.data.toList.length = s.size := by rw [Array.length_toList]; rfl
  refine ⟨s, rfl, ?_, by simp only [Rows.uptoBulk]; omega⟩
  have := hs s.data.toList.length (by simp [DataW.weights])
  rw [hl] at this
  exact this

theorem add_add (a : Addr) (m j : Nat) : (a.add m).add j = a.add (m + j) := by
  unfold Addr.add
  by_cases h1 : m = 0
  · subst h1; simp
  · by_cases h2 : j = 0
    · subst h2; simp [h1]
    · simp [h1, h2, Nat.add_assoc]
theorem cells_get {w : World} {base n : Nat} {a : Addr} {cs : List Value} (h : w.cells? base a n = some cs) : cs.length = n ∧ ∀ j u, cs[j]? = some u → w.cell? (a.add j) = some u := by
  unfold World.cells? at h
  split at h
  · have hl := mapM_some_length h
    refine ⟨by simpa using hl, fun j u hu => ?_⟩
    have hj : j < cs.length := (List.getElem?_eq_some_iff.1 hu).1
    have := mapM_some_get h j j (by rw [List.getElem?_range]; rw [hl] at hj; simpa using hj)
    rw [this]; exact hu
  · cases h

theorem weightsAll_mem {H : Type} {P : Program} {e : TypeId} : ∀ {l : List (DataW H)} {x : DataW H}, x ∈ l → ∀ n ∈ x.weights P e, n ∈ DataW.weightsAll P e l
  | [], _, h => by simp at h
  | y :: r, x, h => by
    intro n hn
    simp only [DataW.weightsAll, List.mem_append]
    rcases List.mem_cons.1 h with rfl | h
    · exact .inl hn
    · exact .inr (weightsAll_mem h n hn)

/-- One list of data against one list of values, element by element. -/
theorem all_open {α : Type} {H : Type} {K : α → List Value → Prop} {g : α → Prop} {m : α → Nat} {css : Nat → List Value → Prop} :
    ∀ (elems : List (DataW H × List MemPlace)) (o : Nat), (∀ i x, elems[i]? = some x → ∃ a cs, css (o + i) cs ∧ K a cs ∧ g a ∧ m a ≤ Rows.uptoBulk x.1) →
      ∃ zs : List α, zs.length = elems.length ∧ (∀ i a, zs[i]? = some a → ∃ cs, css (o + i) cs ∧ K a cs) ∧ (∀ a ∈ zs, g a) ∧ (zs.map m).sum ≤ Rows.uptoBulkAll (elems.map (·.1))
  | [], o, _ => ⟨[], rfl, by simp, by simp, by simp⟩
  | x :: r, o, h => by
    obtain ⟨a, cs, h1, h2, h3, h4⟩ := h 0 x rfl
    obtain ⟨zs, k1, k2, k3, k4⟩ := all_open (css := css) r (o + 1) (fun i y hy => by
      have := h (i + 1) y (by simpa using hy)
      rwa [show o + (i + 1) = o + 1 + i from by omega] at this)
    refine ⟨a :: zs, by simp [k1], fun i b hb => ?_, fun b hb => ?_, ?_⟩
    · cases i with
      | zero =>
        have : a = b := by simpa using hb
        subst this
        exact ⟨cs, h1, h2⟩
      | succ i =>
        have := k2 i b (by simpa using hb)
        rwa [show o + 1 + i = o + (i + 1) from by omega] at this
    · rcases List.mem_cons.1 hb with rfl | hb
      · exact h3
      · exact k3 b hb
    · simp only [List.map_cons, List.sum_cons, Rows.uptoBulkAll]
      omega

theorem opens_slice {P : Program} {t e : TypeId} {α : Type} {d : Kd α} {g : α → Prop} {m : α → Nat} (ht : P.underlying t = some (.slice e)) (hc : P.cellsOf e = d.sz) {B : Nat} (hB : P.bytesOf e = B) (he : Opens P e d g m) :
    Opens P t (Kd.slice e d) (fun xs => (∀ x ∈ xs, g x) ∧ xs.length ≤ 9223372036854775807 ∧ xs.length * B ≤ 140737488351232) (fun xs => (xs.map m).sum + 1) := by
  intro H enc w base spare held fuel cs x h hs
  rcases DataW.trod_slice ht h with ⟨rfl, rfl⟩ | ⟨a, len, cap, elems, rest, n, rfl, rfl, rfl, _, hl, hm, hel, hget, _⟩
  · exact ⟨[], ⟨none, 0, rfl, Nat.le_refl _, Kd.C_nil d w⟩, by simp, by simp [Rows.uptoBulk]⟩
  · have hw : ∀ y ∈ elems, ∀ n ∈ y.1.weights P e, n ≤ reachBytes := fun y hy n hn => hs n (by
      simp only [DataW.weights, ht, List.mem_cons, List.mem_append]
      exact .inr (.inl (weightsAll_mem (List.mem_map_of_mem hy) n hn)))
    have hlen : (elems.map (·.1)).length + (rest.map (·.1)).length = elems.length + rest.length := by simp
    have hb := hs _ (by simp only [DataW.weights, ht, List.mem_cons]; exact .inl rfl)
    rw [hlen, hB] at hb
    obtain ⟨zs, k1, k2, k3, k4⟩ := all_open (K := d.K w) (g := g) (m := m) (css := fun i cs => w.cells? base (a.add (i * d.sz)) d.sz = some cs) elems 0 (fun i y hy => by
      have hi : i < len := by rw [← hel]; exact (List.getElem?_eq_some_iff.1 hy).1
      have hg := hget i hi
      rw [hy, hc] at hg
      obtain ⟨cs, h1, h2⟩ := Option.bind_eq_some_iff.1 hg
      obtain ⟨b, h3, h4, h5⟩ := he enc w base spare held n cs y h2 (hw y (List.mem_of_getElem? hy))
      exact ⟨b, cs, by simpa using h1, h3, h4, h5⟩)
    have hle : zs.length * B ≤ 140737488351232 := by
      rw [k1]
      exact Nat.le_trans (Nat.mul_le_mul_right _ (Nat.le_add_right _ _)) hb
    have hmax : zs.length ≤ 9223372036854775807 := by
      rw [k1, hel]; unfold maxLen at hm; omega
    refine ⟨zs, ⟨some a, cap, by rw [k1, hel], by rw [k1, hel]; exact hl, rfl, hmax, fun _ => ⟨a, rfl, fun j p hj => ?_⟩⟩, ⟨k3, hmax, hle⟩, ?_⟩
    · obtain ⟨cs, h1, h2⟩ := k2 j p hj
      obtain ⟨h3, h4⟩ := cells_get h1
      simp only [Nat.zero_add] at h4
      exact ⟨cs, h3, h2, fun i u hu => by rw [← add_add]; exact h4 i u hu⟩
    · simp only [Rows.uptoBulk]; omega

/-- A struct's fields from place o on. -/
def OpensF {α : Type} (P : Program) (fs : List Field) (o : Nat) (d : Kd α) (g : α → Prop) (m : α → Nat) : Prop :=
  ∀ {H : Type} (enc : TypeId × Value → H) (w : World) (base : Nat) (spare : Nat → Bool) (held : Bool) (fuel : Nat) (cs : List Value) (xs : List (DataW H × List MemPlace)),
    xs.length = fs.length → (∀ (i : Nat) (f : Field), fs[i]? = some f → DataW.trod enc P w base spare held fuel f.type ((cs.drop f.offset).take (P.cellsOf f.type)) = xs[i]?) → cs.length = o + d.sz →
      (∀ n ∈ DataW.weightsEach P (fs.map (·.type)) (xs.map (·.1)), n ≤ reachBytes) → ∃ a, d.K w a (cs.drop o) ∧ g a ∧ m a ≤ Rows.uptoBulkAll (xs.map (·.1))
theorem opensF_last {P : Program} {f : Field} {o : Nat} {α : Type} {d : Kd α} {g : α → Prop} {m : α → Nat} (ho : f.offset = o) (hc : P.cellsOf f.type = d.sz) (h : Opens P f.type d g m) : OpensF P [f] o d g m := by
  intro H enc w base spare held fuel cs xs hl hget hcs hs
  match xs, hl with
  | [x], _ =>
    have h1 := hget 0 f rfl
    simp only [List.getElem?_cons_zero, ho, hc] at h1
    rw [List.take_of_length_le (by rw [List.length_drop]; omega)] at h1
    obtain ⟨a, k1, k2, k3⟩ := h enc w base spare held fuel _ x h1 (fun n hn => hs n (by simp only [List.map_cons, DataW.weightsEach, List.mem_append]; exact .inl hn))
    exact ⟨a, k1, k2, by simp only [List.map_cons, Rows.uptoBulkAll]; omega⟩
theorem opensF_cons {P : Program} {f : Field} {fs : List Field} {o o' : Nat} {α β : Type} {d : Kd α} {g : α → Prop} {m : α → Nat} {d' : Kd β} {g' : β → Prop} {m' : β → Nat} (ho : f.offset = o) (hc : P.cellsOf f.type = d.sz) (hoo : o + d.sz = o')
    (h : Opens P f.type d g m) (h' : OpensF P fs o' d' g' m') : OpensF P (f :: fs) o (Kd.pair d d') (fun x => g x.1 ∧ g' x.2) (fun x => m x.1 + m' x.2) := by
  intro H enc w base spare held fuel cs xs hl hget hcs hs
  match xs, hl with
  | x :: r, hl =>
    have hsz : (Kd.pair d d').sz = d.sz + d'.sz := rfl
    rw [hsz] at hcs
    have h1 := hget 0 f rfl
    simp only [List.getElem?_cons_zero, ho, hc] at h1
    obtain ⟨a, k1, k2, k3⟩ := h enc w base spare held fuel _ x h1 (fun n hn => hs n (by simp only [List.map_cons, DataW.weightsEach, List.mem_append]; exact .inl hn))
    obtain ⟨b, q1, q2, q3⟩ := h' enc w base spare held fuel cs r (by simpa using hl) (fun (i : Nat) (f : Field) hf => by simpa using hget (i + 1) f (by simpa using hf)) (by omega) (fun n hn => hs n (by simp only [List.map_cons, DataW.weightsEach, List.mem_append]; exact .inr hn))
    refine ⟨(a, b), ⟨(cs.drop o).take d.sz, cs.drop o', ?_, k1, q1⟩, ⟨k2, q2⟩, by simp only [List.map_cons, Rows.uptoBulkAll]; omega⟩
    rw [← hoo, ← List.drop_drop, List.take_append_drop]
theorem opens_struct {P : Program} {t : TypeId} {fs : Array Field} {α : Type} {d : Kd α} {g : α → Prop} {m : α → Nat} (ht : P.underlying t = some (.struct fs)) (hc : P.cellsOf t = d.sz) (h : OpensF P fs.toList 0 d g m) : Opens P t d g m := by
  intro H enc w base spare held fuel cs x hx hs
  obtain ⟨xs, n, rfl, rfl, hl, hxl, hget⟩ := DataW.trod_struct ht hx
  obtain ⟨a, h1, h2, h3⟩ := h enc w base spare held n cs xs (by simpa using hxl) (fun i f hf => hget i f (by simpa using hf)) (by omega) (fun n hn => hs n (by simpa only [DataW.weights, ht] using hn))
  refine ⟨a, by simpa using h1, h2, ?_⟩
  simp only [Rows.uptoBulk]
  omega
theorem opens_iso {P : Program} {t : TypeId} {α β : Type} {d : Kd α} {g : α → Prop} {m : α → Nat} {f : β → α} {b : α → β} (hfb : ∀ x, f (b x) = x) (h : Opens P t d g m) : Opens P t (Kd.iso d f) (fun x => g (f x)) (fun x => m (f x)) := by
  intro H enc w base spare held fuel cs x hx hs
  obtain ⟨a, h1, h2, h3⟩ := h enc w base spare held fuel cs x hx hs
  exact ⟨b a, by show d.K w (f (b a)) cs; rw [hfb]; exact h1, by show g (f (b a)); rw [hfb]; exact h2, by show m (f (b a)) ≤ _; rw [hfb]; exact h3⟩
theorem opens_mono {P : Program} {t : TypeId} {α : Type} {d : Kd α} {g g' : α → Prop} {m m' : α → Nat} (hg : ∀ x, g x → g' x) (hm : ∀ x, m' x ≤ m x) (h : Opens P t d g m) : Opens P t d g' m' := by
  intro H enc w base spare held fuel cs x hx hs
  obtain ⟨a, h1, h2, h3⟩ := h enc w base spare held fuel cs x hx hs
  exact ⟨a, h1, hg a h2, Nat.le_trans (hm a) h3⟩
theorem len_le_sum {α : Type} {m : α → Nat} (h : ∀ x, 1 ≤ m x) : ∀ l : List α, l.length ≤ (l.map m).sum
  | [] => by simp
  | x :: l => by have := h x; have := len_le_sum h l; simp only [List.length_cons, List.map_cons, List.sum_cons]; omega
end Go.Proofs.Ytacacigpendneaa.Op
/- How the arguments of layer 10 are opened into the print's kinds. -/
namespace Go.Proofs.Ytacacigpendneaa.QV
open Go.RowKit Go.Proofs.YtacacigpendneaaW.PrintWords Go.Proofs.Ytacacigpendneaa.Op
set_option linter.unusedVariables false
theorem oS : Opens Try.prog 69 k69 (fun _ => True) (fun x => x.f3.size + 4) :=
  opens_mono (fun _ _ => trivial) (fun x => by simp only; omega)
    (opens_iso (b := fun x => ⟨x.1, x.2.1, x.2.2.1, x.2.2.2⟩) (fun _ => rfl) (opens_struct Try.underlying69 (by kernel_rfl)
      (opensF_cons rfl (by kernel_rfl) rfl (opens_int Try.underlying3) (opensF_cons rfl (by kernel_rfl) rfl (opens_bool Try.underlying4) (opensF_cons rfl (by kernel_rfl) rfl (opens_int Try.underlying2) (opensF_last rfl (by kernel_rfl) (opens_string Try.underlying9)))))))
theorem oSs : Opens Try.prog 27 (Kd.slice 69 k69) (fun xs => xs.length * 40 ≤ 140737488351232) (fun xs => 1) :=
  opens_mono (fun _ h => h.2.2) (fun xs => by omega) (opens_slice Try.underlying27 (by kernel_rfl) (by kernel_rfl) oS)
theorem oNm : Opens Try.prog tNm k25 (fun x => Nok x) (fun _ => 1) :=
  opens_mono (fun _ h => ⟨h.1, h.2⟩) (fun x => by simp)
    (opens_iso (b := fun x => ⟨x.1, x.2⟩) (fun _ => rfl) (opens_struct Try.underlying25 (by kernel_rfl)
      (opensF_cons rfl (by kernel_rfl) rfl (opens_int Try.underlying22) (opensF_last rfl (by kernel_rfl) (opens_int Try.underlying23)))))
theorem oVer : Opens Try.prog tVer kVer (fun x => Nok x.f0 ∧ x.f1.length * 40 ≤ 140737488351232 ∧ (Lit.int .u64 x.f2).wf = true) (fun _ => 1) :=
  opens_mono (fun _ h => ⟨h.1, h.2.1, h.2.2⟩) (fun x => by omega)
    (opens_iso (b := fun x => ⟨x.1, x.2.1, x.2.2⟩) (fun _ => rfl) (opens_struct Try.underlying29 (by kernel_rfl)
      (opensF_cons rfl (by kernel_rfl) rfl oNm (opensF_cons rfl (by kernel_rfl) rfl oSs (opensF_last rfl (by kernel_rfl) (opens_int Try.underlying22))))))
theorem ver_open {w : World} {x : Ver} {cs : List Value} (h : kVer.K w x cs) : ∃ A c, cs = [.int .u64 x.f0.f0, .int .u32 x.f0.f1, .slice A x.f1.length c, .int .u64 x.f2] ∧ x.f1.length ≤ c ∧ kS.C w A x.f1.length x.f1 := by
  obtain ⟨c1, c2, e1, h1, h2⟩ := h
  obtain ⟨c3, c4, e2, ⟨A, c, rfl, hl, hC⟩, h4⟩ := h2
  obtain ⟨c5, c6, rfl, h5, h6⟩ := h1
  exact ⟨A, c, by rw [e1, e2, h5, h6, h4]; rfl, hl, hC⟩
/-- A call of a script: its kind, a version, a name, an epoch. -/
abbrev OpT : Type := Int × Ver × Nm × Int
def kOp : Kd OpT := Kd.pair (Kd.int .i64) (Kd.pair kVer (Kd.pair k25 (Kd.int .u64)))
def OpOk (o : OpT) : Prop := Nok o.2.1.f0 ∧ o.2.1.f1.length * 40 ≤ 140737488351232 ∧ (Lit.int .u64 o.2.1.f2).wf = true ∧ Nok o.2.2.1 ∧ (Lit.int .u64 o.2.2.2).wf = true
theorem oOp : Opens Try.prog 66 kOp OpOk (fun _ => 1) :=
  opens_mono (fun _ h => ⟨h.2.1.1, h.2.1.2.1, h.2.1.2.2, h.2.2.1, h.2.2.2⟩) (fun x => by omega)
    (opens_struct Try.underlying66 (by kernel_rfl)
      (opensF_cons rfl (by kernel_rfl) rfl (opens_int Try.underlying3) (opensF_cons rfl (by kernel_rfl) rfl oVer (opensF_cons rfl (by kernel_rfl) rfl oNm (opensF_last rfl (by kernel_rfl) (opens_int Try.underlying22))))))
abbrev kOps : Kd (List OpT) := Kd.slice 66 kOp
theorem oOps : Opens Try.prog 52 kOps (fun xs => (∀ x ∈ xs, OpOk x) ∧ xs.length * 80 ≤ 140737488351232) (fun xs => xs.length + 1) :=
  opens_mono (fun xs h => ⟨h.1, h.2.2⟩) (fun xs => by have := len_le_sum (m := fun _ : OpT => 1) (fun _ => by omega) xs; omega) (opens_slice (B := 80) Try.underlying52 (by kernel_rfl) (by kernel_rfl) oOp)
theorem op_open {w : World} {x : OpT} {cs : List Value} (h : kOp.K w x cs) : ∃ A c, cs = [.int .i64 x.1, .int .u64 x.2.1.f0.f0, .int .u32 x.2.1.f0.f1, .slice A x.2.1.f1.length c, .int .u64 x.2.1.f2, .int .u64 x.2.2.1.f0, .int .u32 x.2.2.1.f1, .int .u64 x.2.2.2] ∧ x.2.1.f1.length ≤ c ∧ kS.C w A x.2.1.f1.length x.2.1.f1 := by
  obtain ⟨c1, c2, e1, h1, c3, c4, e2, h3, c5, c6, e3, ⟨c7, c8, e4, h7, h8⟩, h6⟩ := h
  obtain ⟨A, c, e5, hl, hC⟩ := ver_open h3
  exact ⟨A, c, by rw [e1, e2, e3, e4, e5, h1, h7, h8, h6]; rfl, hl, hC⟩
end Go.Proofs.Ytacacigpendneaa.QV
/- slices.Clone of a row of values: a row of one's own; nil stays nil. -/
namespace Go.Proofs.Ytacacigpendneaa.QV
open Go.RowKit Go.Proofs.YtacacigpendneaaW.PrintWords
set_option linter.unusedVariables false
set_option linter.unusedSimpArgs false
theorem infoS : (Try.prog.info? 69).map (fun i => (i.zero, i.size, i.bytes)) = some (some (.agg #[.int .i64 0, .bool false, .int .i64 0, .string ⟨#[]⟩]), 4, 40) := by kernel_rfl
theorem kS_KM {w W : World} {base : Nat} {ok : Nat → Prop} (x : S69) (cs : List Value) (h : kS.K w x cs) : kS.M W base ok x cs := by
  rw [k69_open h]; exact k69_mkM _ _ _ _
theorem R_empty' {α : Type} (d : Kd α) (e : Nat) (w : World) (base : Nat) (ok : Nat → Prop) (hb : base ≤ w.heap.size) (hok : ok w.heap.size) : d.R e (w.alloc (.cells #[] e)) base ok (.slice (some ⟨w.heap.size, 0, none⟩) 0 0) [] := by
  refine ⟨fun k hk => ?_, [], ?_, Reps.none _ _⟩
  · have : w.heap.size = k := by simpa [Value.ownBlock] using hk
    subst this
    exact hok
  · have h2 := World.ownsRow_lit (base := base) (e := e) (size := d.sz) w #[] 0 hb (by simp) (by simp)
    simpa using h2

set_option maxHeartbeats 1000000 in
theorem clone_any (A : Option Addr) (l : List S69) (c : Nat) (w : World) (hr : kS.C w A l.length l) (hc : l.length ≤ c) (hb : l.length * 40 ≤ 140737488355328) :
    Calls Try.prog 52 #[.slice A l.length c] w fun e w' => ∃ v, e = .returned v ∧ kS.R tS w' w.heap.size (fun _ => True) v l ∧ Below w.heap.size w w' := by
  have hmax := hr.2.1
  cases A with
  | none =>
    have hl : l = [] := by
      cases l with
      | nil => rfl
      | cons x l => obtain ⟨ad, e, _⟩ := hr.2.2 (by simp); cases e
    subst hl
    have hn := Lib.run_eql_slice_nil (P := Try.prog)
    go_enter Try.func52, Try.ntmps52
    go_wp2
    go_ret
    exact ⟨_, rfl, Kd.R_nil _ _ _ _ _, Below.refl _ _⟩
  | some ad =>
    have hn := Lib.run_eql_slice_nil (P := Try.prog)
    go_enter Try.func52, Try.ntmps52
    go_wp2_with (at_builtin; refine Kd.R_append_rows kS (w0 := w) w.heap.size rfl (.tmp 5) (.tmp 6) 27 69 _ 40 rfl Try.underlying27 infoS rfl (by decide) (by decide) (.slice (some ⟨w.heap.size, 0, none⟩) 0 0) [] l (some ad) l.length c (fun _ => True) (fun _ => False) rfl rfl (R_empty' kS _ _ _ _ (Nat.le_refl _) trivial) (Kd.C_below hr (below_alloc (Below.refl _ _) _)) (fun x cs h => kS_KM x cs h) (fun _ h => h.elim) (fun _ _ => trivial) (below_alloc (Below.refl _ _) _) (by simp) (by simp; omega) ?_; intro v1 w4 hv1 hB7 hg7 hat7; clear hg7 hat7)
    go_ret
    exact ⟨v1, rfl, by simpa using hv1, hB7⟩
end Go.Proofs.Ytacacigpendneaa.QV
/- Rows in memory: what a Wos holds. -/
namespace Go.Proofs.Ytacacigpendneaa.QV
open Go.RowKit Go.Proofs.YtacacigpendneaaW.PrintWords Go.Proofs.Ytacacigpendneaa.Mp Go.Proofs.Ytacacigpendneaa.SeqW
set_option linter.unusedVariables false
set_option linter.unusedSimpArgs false
set_option maxRecDepth 100000
/-- The elements that f has are the versions that F has, and their rows lie in blocks of R. -/
def RowsAt (R : Nat → Prop) (W : World) (f : Nm → Option Value) (F : Nm → Option Ver) : Prop := ∀ W', (∀ k, R k → k < W.heap.size → W'.heap[k]? = W.heap[k]?) → FIs W' f F
theorem RowsAt.now {R : Nat → Prop} {W : World} {f : Nm → Option Value} {F : Nm → Option Ver} (h : RowsAt R W f F) : FIs W f F := h W (fun _ _ _ => rfl)
theorem RowsAt.move {R : Nat → Prop} {W W1 : World} {f : Nm → Option Value} {F : Nm → Option Ver} (h : RowsAt R W f F) (hz : W.heap.size ≤ W1.heap.size) (hk : ∀ k, R k → k < W.heap.size → W1.heap[k]? = W.heap[k]?) : RowsAt R W1 f F :=
  fun W' hW => h W' (fun k hR hlt => (hW k hR (Nat.lt_of_lt_of_le hlt hz)).trans (hk k hR hlt))
theorem RowsAt.mono {R R' : Nat → Prop} {W : World} {f : Nm → Option Value} {F : Nm → Option Ver} (h : RowsAt R W f F) (hR : ∀ k, R k → R' k) : RowsAt R' W f F := fun W' hW => h W' (fun k hk => hW k (hR k hk))
theorem RowsAt.none (W : World) : RowsAt (fun _ => False) W (fun _ => .none) (fun _ => .none) := fun W' _ k _ => .inl ⟨rfl, rfl⟩
theorem RowsAt.upd_ {R : Nat → Prop} {W : World} {f : Nm → Option Value} {F : Nm → Option Ver} (h : RowsAt R W f F) (k : Nm) {u : Value} {x : Ver} (hx : ∀ W', (∀ k, R k → k < W.heap.size → W'.heap[k]? = W.heap[k]?) → VerAt W' u x) : RowsAt R W (Mp.upd f k (some u)) (updV F k (some x)) :=
  fun W' hW => (h W' hW).upd_ k (hx W' hW)
theorem RowsAt.del_ {R : Nat → Prop} {W : World} {f : Nm → Option Value} {F : Nm → Option Ver} (h : RowsAt R W f F) (k : Nm) : RowsAt R W (Mp.upd f k .none) (updV F k .none) := fun W' hW => (h W' hW).del_ k
/-- Block p is a Wos whose map is block m: it has the versions F (n of them at most); their rows lie in blocks of R. -/
structure Wo (W : World) (p m n : Nat) (R : Nat → Prop) (F : Nm → Option Ver) : Prop where
  box : W.heap[p]? = some (.cells #[.map (some m)] 76 (0, 0))
  ne : m ≠ p
  map : ∃ f, MapIs nmK W m n f ∧ RowsAt R W f F
  own : Own F
  row : ∀ k x, F k = some x → x.f1.length * 40 ≤ 140737488351232
  rm : ¬ R m
  rp : ¬ R p
  rl : ∀ k, R k → k < W.heap.size
theorem Wo.keep {W W' : World} {p m n : Nat} {R : Nat → Prop} {F : Nm → Option Ver} (h : Wo W p m n R F) (hz : W.heap.size ≤ W'.heap.size) (hp : W'.heap[p]? = W.heap[p]?) (hm : W'.heap[m]? = W.heap[m]?) (hr : ∀ k, R k → W'.heap[k]? = W.heap[k]?) : Wo W' p m n R F := by
  obtain ⟨f, h1, h2⟩ := h.map
  exact ⟨hp.trans h.box, h.ne, ⟨f, h1.at hm, h2.move hz (fun k hk _ => hr k hk)⟩, h.own, h.row, h.rm, h.rp, fun k hk => Nat.lt_of_lt_of_le (h.rl k hk) hz⟩
theorem Wo.ml {W : World} {p m n : Nat} {R : Nat → Prop} {F : Nm → Option Ver} (h : Wo W p m n R F) : m < W.heap.size := let ⟨_, h1, _⟩ := h.map; h1.lt
theorem Wo.pl {W : World} {p m n : Nat} {R : Nat → Prop} {F : Nm → Option Ver} (h : Wo W p m n R F) : p < W.heap.size := blk_lt h.box
theorem Wo.below {W W' : World} {p m n : Nat} {R : Nat → Prop} {F : Nm → Option Ver} (h : Wo W p m n R F) (hb : Below W.heap.size W W') : Wo W' p m n R F :=
  h.keep hb.size (hb.block p h.pl) (hb.block m h.ml) (fun k hk => hb.block k (h.rl k hk))
end Go.Proofs.Ytacacigpendneaa.QV
/- wos.own, wos.New. -/
namespace Go.Proofs.Ytacacigpendneaa.QV
open Go.RowKit Go.Proofs.YtacacigpendneaaW.PrintWords Go.Proofs.Ytacacigpendneaa.Mp Go.Proofs.Ytacacigpendneaa.SeqW
set_option linter.unusedVariables false
set_option linter.unusedSimpArgs false
set_option maxRecDepth 100000
theorem own_any (x : Ver) (A : Option Addr) (c : Nat) (w : World) (hr : kS.C w A x.f1.length x.f1) (hc : x.f1.length ≤ c) (hb : x.f1.length * 40 ≤ 140737488355328) :
    Calls Try.prog 36 #[.agg #[.int .u64 x.f0.f0, .int .u32 x.f0.f1, .slice A x.f1.length c, .int .u64 x.f2]] w fun e w' => ∃ v, e = .returned (.agg #[.int .u64 x.f0.f0, .int .u32 x.f0.f1, v, .int .u64 x.f2]) ∧ kS.R tS w' w.heap.size (fun _ => True) v x.f1 ∧ Below w.heap.size w w' := by
  have hB0 : Below w.heap.size w ((w.alloc (.cells #[.int .u64 x.f0.f0, .int .u32 x.f0.f1, .slice A x.f1.length c, .int .u64 x.f2] tVer)).alloc (.cells #[.int .u64 0, .int .u32 0, .slice none 0 0, .int .u64 0] tVer)) := below_alloc (below_alloc (Below.refl _ _) _) _
  have hbx : ((w.alloc (.cells #[.int .u64 x.f0.f0, .int .u32 x.f0.f1, .slice A x.f1.length c, .int .u64 x.f2] tVer)).alloc (.cells #[.int .u64 0, .int .u32 0, .slice none 0 0, .int .u64 0] tVer)).heap[w.heap.size]? = some (.cells #[.int .u64 x.f0.f0, .int .u32 x.f0.f1, .slice A x.f1.length c, .int .u64 x.f2] tVer (0, 0)) := blk_alloc (blk_new w _) _
  have hby := blk_new (w.alloc (.cells #[.int .u64 x.f0.f0, .int .u32 x.f0.f1, .slice A x.f1.length c, .int .u64 x.f2] tVer)) (.cells #[.int .u64 0, .int .u32 0, .slice none 0 0, .int .u64 0] tVer)
  rw [World.size_alloc] at hby
  go_enter Try.func36, Try.ntmps36
  go_wp2_with fail
  generalize (w.alloc (.cells #[.int .u64 x.f0.f0, .int .u32 x.f0.f1, .slice A x.f1.length c, .int .u64 x.f2] tVer)).alloc (.cells #[.int .u64 0, .int .u32 0, .slice none 0 0, .int .u64 0] tVer) = W0 at hB0 hbx hby ⊢
  refine (clone_any A x.f1 c W0 (Kd.C_below hr hB0) hc hb).mono ?_
  rintro e w1 ⟨v, rfl, hR, hb1⟩
  obtain ⟨A1, c1, rfl⟩ := Kd.R_slice hR
  have hx1 := blk_below hbx hb1
  have hy1 := blk_below hby hb1
  have hz0 := hB0.size
  have hz1 := hb1.size
  have hs0 : w.heap.size + 2 ≤ W0.heap.size := by have := blk_lt hby; omega
  have a0 := blk_cell hx1 0
  have a1 := blk_cell hx1 1
  have a2 := blk_cell hx1 2
  have a3 := blk_cell hx1 3
  have f2 := blk_frozen hx1 2
  have d0 := blk_cell hy1 0
  have d1 := blk_cell hy1 1
  have d2 := blk_cell hy1 2
  have d3 := blk_cell hy1 3
  have g0 := blk_frozen hy1 0
  have g1 := blk_frozen hy1 1
  have g2 := blk_frozen hy1 2
  have g3 := blk_frozen hy1 3
  go_wp2
  have e1 : (w1.setCell ⟨w.heap.size, 2, none⟩ (.slice A1 x.f1.length c1)).heap[w.heap.size + 1]? = some (.cells #[.int .u64 0, .int .u32 0, .slice none 0 0, .int .u64 0] tVer (0, 0)) := (Below.heap_setCell _ _ _ _ (by show w.heap.size + 1 ≠ w.heap.size; omega)).trans hy1
  have e2 := blk_set (blk_set (blk_set (blk_set e1 0 (.int .u64 x.f0.f0)) 1 (.int .u32 x.f0.f1)) 2 (.slice A1 x.f1.length c1)) 3 (.int .u64 x.f2)
  have hst : ∀ (V : World) (b j : Nat) (u : Value), w.heap.size ≤ b → Below w.heap.size w V → Below w.heap.size w (V.setCell ⟨b, j, none⟩ u) := fun V b j u hb h => h.setCell (p := ⟨b, j, none⟩) hb u
  have hBF := hst _ (w.heap.size + 1) 3 (.int .u64 x.f2) (by omega) (hst _ (w.heap.size + 1) 2 (.slice A1 x.f1.length c1) (by omega) (hst _ (w.heap.size + 1) 1 (.int .u32 x.f0.f1) (by omega) (hst _ (w.heap.size + 1) 0 (.int .u64 x.f0.f0) (by omega) (hst _ w.heap.size 2 (.slice A1 x.f1.length c1) (by omega) (btr' hB0 hb1)))))
  have hR0 := Kd.R_mono (Kd.R_bound hR) (ok' := fun k => W0.heap.size ≤ k) (fun k hk => hk.2.1)
  have far : ∀ (V : World) (b j : Nat) (u : Value), b < W0.heap.size → kS.R tS V W0.heap.size (fun k => W0.heap.size ≤ k) (.slice A1 x.f1.length c1) x.f1 → kS.R tS (V.setCell ⟨b, j, none⟩ u) W0.heap.size (fun k => W0.heap.size ≤ k) (.slice A1 x.f1.length c1) x.f1 :=
    fun V b j u hb h => Kd.R_far (p := ⟨b, j, none⟩) h (fun k hk => by show k ≠ b; omega) u
  have hRF := far _ (w.heap.size + 1) 3 (.int .u64 x.f2) (by omega) (far _ (w.heap.size + 1) 2 (.slice A1 x.f1.length c1) (by omega) (far _ (w.heap.size + 1) 1 (.int .u32 x.f0.f1) (by omega) (far _ (w.heap.size + 1) 0 (.int .u64 x.f0.f0) (by omega) (far _ w.heap.size 2 (.slice A1 x.f1.length c1) (by omega) hR0))))
  clear hst far e1 a0 a1 a2 a3 d0 d1 d2 d3
  generalize ((((w1.setCell ⟨w.heap.size, 2, none⟩ (.slice A1 x.f1.length c1)).setCell ⟨w.heap.size + 1, 0, none⟩ (.int .u64 x.f0.f0)).setCell ⟨w.heap.size + 1, 1, none⟩ (.int .u32 x.f0.f1)).setCell ⟨w.heap.size + 1, 2, none⟩ (.slice A1 x.f1.length c1)).setCell ⟨w.heap.size + 1, 3, none⟩ (.int .u64 x.f2) = WF at e2 hBF hRF ⊢
  have r0 : WF.cell? ⟨w.heap.size + 1, 0, none⟩ = some (.int .u64 x.f0.f0) := blk_cell e2 0
  have r1 : WF.cell? ⟨w.heap.size + 1, 1, none⟩ = some (.int .u32 x.f0.f1) := blk_cell e2 1
  have r2 : WF.cell? ⟨w.heap.size + 1, 2, none⟩ = some (.slice A1 x.f1.length c1) := blk_cell e2 2
  have r3 : WF.cell? ⟨w.heap.size + 1, 3, none⟩ = some (.int .u64 x.f2) := blk_cell e2 3
  refine bodyPost_ret (v := .agg #[.int .u64 x.f0.f0, .int .u32 x.f0.f1, .slice A1 x.f1.length c1, .int .u64 x.f2]) (by simp [results, Try.results36, go_sem, r0, r1, r2, r3]; try rfl) rfl ?_
  exact ⟨_, rfl, Kd.R_lower (Kd.R_mono hRF (fun _ _ => trivial)) (by omega), hBF⟩
/-- A new Wos: nothing in it. -/
theorem new_any (w : World) :
    Calls Try.prog 33 #[] w fun e w' => e = .returned (.pointer (some ⟨w.heap.size + 1, 0, none⟩)) ∧ Wo w' (w.heap.size + 1) w.heap.size 0 (fun _ => False) (fun _ => none) ∧ Below w.heap.size w w' := by
  have hmm := @run_makeMap Try.prog
  go_enter Try.func33, Try.ntmps33
  go_wp2
  go_ret
  have hm : MapIs nmK (w.alloc (.map #[] 0)) w.heap.size 0 (fun _ => none) := MapIs.made w
  have hb : Below (w.alloc (.map #[] 0)).heap.size (w.alloc (.map #[] 0)) ((w.alloc (.map #[] 0)).alloc (.cells #[.map (some w.heap.size)] 76)) := below_alloc (Below.refl _ _) _
  have hn := blk_new (w.alloc (.map #[] 0)) (.cells #[.map (some w.heap.size)] 76)
  rw [World.size_alloc] at hn
  refine ⟨by simp, ⟨hn, by omega, ⟨_, hm.below hb, RowsAt.none _⟩, (fun k x h => (by cases h)), (fun k x h => (by cases h)), fun h => h, fun h => h, fun k h => h.elim⟩, below_alloc (below_alloc (Below.refl _ _) _) _⟩
end Go.Proofs.Ytacacigpendneaa.QV
/- (*Wos).Add. -/
namespace Go.Proofs.Ytacacigpendneaa.QV
open Go.RowKit Go.Proofs.YtacacigpendneaaW.PrintWords Go.Proofs.Ytacacigpendneaa.Mp Go.Proofs.Ytacacigpendneaa.SeqW
set_option linter.unusedVariables false
set_option linter.unusedSimpArgs false
set_option maxRecDepth 100000
/-- What a look-up tells in whatever world keeps the map's block. -/
theorem Wo.look {W : World} {p m n : Nat} {R : Nat → Prop} {F : Nm → Option Ver} (h : Wo W p m n R F) (a : Nm) (ha : Nok a) :
    (F a = none ∧ ∀ V, Below W.heap.size W V → (Instr.lookup tMap (.map (some m)) (.agg #[.int .u64 a.f0, .int .u32 a.f1]) true).run Try.prog V = .ok (.tuple #[.agg #[.int .u64 0, .int .u32 0, .slice none 0 0, .int .u64 0], .bool false]) V) ∨
    ∃ x A c, F a = some x ∧ x.f1.length ≤ c ∧ (∀ V, (∀ k, R k → V.heap[k]? = W.heap[k]?) → kS.C V A x.f1.length x.f1) ∧
      ∀ V, Below W.heap.size W V → (Instr.lookup tMap (.map (some m)) (.agg #[.int .u64 a.f0, .int .u32 a.f1]) true).run Try.prog V = .ok (.tuple #[.agg #[.int .u64 x.f0.f0, .int .u32 x.f0.f1, .slice A x.f1.length c, .int .u64 x.f2], .bool true]) V := by
  obtain ⟨f, h1, h2⟩ := h.map
  have hl := fun V (hV : Below W.heap.size W V) => (h1.below hV).look (tm := tMap) (e := tVer) Try.underlying74 (zeroVer V) ha
  rcases h2.now a ha with ⟨e1, e2⟩ | ⟨u, x, e1, e2, A, c, rfl, hx, hC⟩
  · refine .inl ⟨e1, fun V hV => ?_⟩
    have := hl V hV
    rw [e2] at this
    exact this
  · refine .inr ⟨x, A, c, e2, hx, fun V hV => ?_, fun V hV => ?_⟩
    · rcases h2 V (fun k hk _ => hV k hk) a ha with ⟨e3, e4⟩ | ⟨u', x', e3, e4, A', c', rfl, hx', hC'⟩
      · rw [e1] at e4; cases e4
      · rw [e2] at e4; cases e4
        rw [e1] at e3
        injection e3 with e3
        injection e3 with e3
        simp at e3
        obtain ⟨rfl, rfl⟩ := e3
        exact hC'
    · have := hl V hV
      rw [e1] at this
      exact this
theorem grown_of {w W W3 : World} {m : Nat} (hb : Below w.heap.size w W) (hg : W.grownBy W3 (some m)) : w.grownBy W3 (some m) :=
  ⟨hg.os.trans hb.os, hg.tape.trans hb.tape, hg.output.trans hb.output, Nat.le_trans hb.size hg.size, fun k hk hn => (hg.block k (Nat.lt_of_lt_of_le hk hb.size) hn).trans (hb.block k hk)⟩
/-- A version is laid into the map; its row lies at or above b. -/
theorem wo_put {W W3 : World} {p m n b : Nat} {R : Nat → Prop} {F : Nm → Option Ver} {f : Nm → Option Value} {x : Ver} {v : Value} (h : Wo W p m n R F) (hf : RowsAt R W f F)
    (h3 : MapIs nmK W3 m (n + 1) (Mp.upd f x.f0 (some (.agg #[.int .u64 x.f0.f0, .int .u32 x.f0.f1, v, .int .u64 x.f2])))) (hg : W.grownBy W3 (some m)) (hR : kS.R tS W b (fun _ => True) v x.f1) (hm : m < b) (hp : p < b) (hl : x.f1.length * 40 ≤ 140737488351232) :
    Wo W3 p m (n + 1) (fun k => R k ∨ b ≤ k ∧ k < W3.heap.size) (updV F x.f0 (some x)) := by
  have hgb : ∀ k, k < W.heap.size → k ≠ m → W3.heap[k]? = W.heap[k]? := fun k hk hn => hg.block k hk (by simpa using hn)
  refine ⟨(hgb p h.pl (fun e => h.ne e.symm)).trans h.box, h.ne, ⟨_, h3, ?_⟩, h.own.upd x, ?_, ?_, ?_, ?_⟩
  · have hmv : RowsAt R W3 f F := hf.move hg.size (fun k hk hlt => hgb k hlt (fun e => h.rm (e ▸ hk)))
    refine (hmv.mono (fun k hk => .inl hk)).upd_ x.f0 (fun W' hW => ?_)
    have hR1 := Kd.R_step (Kd.R_bound hR) (w1 := W') (fun k hk hlt => (hW k (.inr ⟨hk.2.1, Nat.lt_of_lt_of_le hlt hg.size⟩) (Nat.lt_of_lt_of_le hlt hg.size)).trans (hgb k hlt (by have := hk.2.1; omega)))
    obtain ⟨A1, c1, e1, hc1, hC1⟩ := Kd.R_reads hR1
    exact ⟨A1, c1, by rw [e1], hc1, hC1⟩
  · intro k y hy
    unfold updV at hy
    split at hy
    · cases hy; exact hl
    · exact h.row k y hy
  · rintro (hk | hk)
    · exact h.rm hk
    · omega
  · rintro (hk | hk)
    · exact h.rp hk
    · omega
  · rintro k (hk | hk)
    · exact Nat.lt_of_lt_of_le (h.rl k hk) hg.size
    · exact hk.2
set_option maxHeartbeats 4000000 in
theorem add_twice (x : Ver) (A : Option Addr) (c : Nat) (w : World) (p m n : Nat) (R : Nat → Prop) (F : Nm → Option Ver) (h : Wo w p m n R F) (hx : Nok x.f0) (hF : (F x.f0).isSome = true) :
    Calls Try.prog 20 #[.pointer (some ⟨p, 0, none⟩), .agg #[.int .u64 x.f0.f0, .int .u32 x.f0.f1, .slice A x.f1.length c, .int .u64 x.f2]] w fun e w' => e = .returned (.int .i64 100) ∧ Below w.heap.size w w' := by
  have hB0 := below_alloc (Below.refl w.heap.size w) (.cells #[.int .u64 x.f0.f0, .int .u32 x.f0.f1, .slice A x.f1.length c, .int .u64 x.f2] tVer)
  have hbx := blk_new w (.cells #[.int .u64 x.f0.f0, .int .u32 x.f0.f1, .slice A x.f1.length c, .int .u64 x.f2] tVer)
  go_enter Try.func20, Try.ntmps20
  go_wp2_with fail
  generalize w.alloc (.cells #[.int .u64 x.f0.f0, .int .u32 x.f0.f1, .slice A x.f1.length c, .int .u64 x.f2] tVer) = W0 at hB0 hbx ⊢
  have h0 := h.below hB0
  rcases h0.look x.f0 hx with ⟨hn, _⟩ | ⟨y, Ay, cy, hy, hyc, _, hlk⟩
  · rw [hn] at hF; cases hF
  · clear hF
    have S0 : ∀ V : World, Below W0.heap.size W0 V → V.cell? ⟨p, 0, none⟩ = some (.map (some m)) ∧ V.cell? ⟨w.heap.size, 0, none⟩ = some (.int .u64 x.f0.f0) ∧ V.cell? ⟨w.heap.size, 1, none⟩ = some (.int .u32 x.f0.f1) ∧ (Instr.lookup tMap (.map (some m)) (.agg #[.int .u64 x.f0.f0, .int .u32 x.f0.f1]) true).run Try.prog V = .ok (.tuple #[.agg #[.int .u64 y.f0.f0, .int .u32 y.f0.f1, .slice Ay y.f1.length cy, .int .u64 y.f2], .bool true]) V ∧ Below W0.heap.size W0 V :=
      fun V hV => ⟨blk_cell (blk_below h0.box hV) 0, blk_cell (blk_below hbx hV) 0, blk_cell (blk_below hbx hV) 1, hlk V hV, hV⟩
    refine wp_region_noPanic ?_
    refine wp_region_held_drew (S := fun V : World => V.cell? ⟨p, 0, none⟩ = some (.map (some m)) ∧ V.cell? ⟨w.heap.size, 0, none⟩ = some (.int .u64 x.f0.f0) ∧ V.cell? ⟨w.heap.size, 1, none⟩ = some (.int .u32 x.f0.f1) ∧ (Instr.lookup tMap (.map (some m)) (.agg #[.int .u64 x.f0.f0, .int .u32 x.f0.f1]) true).run Try.prog V = .ok (.tuple #[.agg #[.int .u64 y.f0.f0, .int .u32 y.f0.f1, .slice Ay y.f1.length cy, .int .u64 y.f2], .bool true]) V ∧ Below W0.heap.size W0 V) (by kernel_rfl) (S0 _ (below_drew (Below.refl _ _))) (fun hS => ?_)
    refine wpAnyH_take (i := 0) (oi := ⟨some 8, _, _, _, _, _⟩) (v := ?_) rfl (by kernel_rfl) (by kernel_rfl) (by kernel_rfl) (fun _ _ _ h => h) (Or.inl ⟨by rfl, ?_⟩) (by assumption) ?_
    rotate_left
    · intro w hSw; (try dsimp only at hSw); (try go_split_ands); go_simp; (try (with_reducible rfl))
    (try simp only [Act.put, List.setIfInBounds_toArray, List.set_cons_zero, List.set_cons_succ])
    refine wpAnyH_take (i := 1) (oi := ⟨some 9, _, _, _, _, _⟩) (v := ?_) rfl (by kernel_rfl) (by kernel_rfl) (by kernel_rfl) (fun _ _ _ h => h) (Or.inl ⟨by rfl, ?_⟩) (by assumption) ?_
    rotate_left
    · intro w hSw; (try dsimp only at hSw); (try go_split_ands); go_simp; (try (with_reducible rfl))
    (try simp only [Act.put, List.setIfInBounds_toArray, List.set_cons_zero, List.set_cons_succ])
    refine wpAnyH_take (i := 2) (oi := ⟨some 10, _, _, _, _, _⟩) (v := ?_) rfl (by kernel_rfl) (by kernel_rfl) (by kernel_rfl) (fun _ _ _ h => h) (Or.inl ⟨by rfl, ?_⟩) (by assumption) ?_
    rotate_left
    · intro w hSw; (try dsimp only at hSw); (try go_split_ands); go_simp; (try (with_reducible rfl))
    (try simp only [Act.put, List.setIfInBounds_toArray, List.set_cons_zero, List.set_cons_succ])
    refine wpAnyH_take (i := 3) (oi := ⟨some 11, _, _, _, _, _⟩) (v := ?_) rfl (by kernel_rfl) (by kernel_rfl) (by kernel_rfl) (fun _ _ _ h => h) (Or.inl ⟨by rfl, ?_⟩) (by assumption) ?_
    rotate_left
    · intro w hSw; (try dsimp only at hSw); (try go_split_ands); go_simp; (try (with_reducible rfl))
    (try simp only [Act.put, List.setIfInBounds_toArray, List.set_cons_zero, List.set_cons_succ])
    refine wpAnyH_take (i := 4) (oi := ⟨some 12, _, _, _, _, _⟩) (v := ?_) rfl (by kernel_rfl) (by kernel_rfl) (by kernel_rfl) (fun _ _ _ h => h) (Or.inl ⟨by rfl, ?_⟩) (by assumption) ?_
    rotate_left
    · intro w hSw; (try dsimp only at hSw); (try go_split_ands); go_simp; (try (with_reducible rfl))
    (try simp only [Act.put, List.setIfInBounds_toArray, List.set_cons_zero, List.set_cons_succ])
    refine wpAnyH_take (i := 5) (oi := ⟨some 13, _, _, _, _, _⟩) (v := ?_) rfl (by kernel_rfl) (by kernel_rfl) (by kernel_rfl) (fun _ _ _ h => h) (Or.inl ⟨by rfl, ?_⟩) (by assumption) ?_
    rotate_left
    · intro w hSw; (try dsimp only at hSw); (try go_split_ands); go_simp; (try (with_reducible rfl))
    (try simp only [Act.put, List.setIfInBounds_toArray, List.set_cons_zero, List.set_cons_succ])
    refine wpAnyH_take (i := 6) (oi := ⟨some 14, _, _, _, _, _⟩) (v := ?_) rfl (by kernel_rfl) (by kernel_rfl) (by kernel_rfl) (fun _ _ _ h => h) (Or.inl ⟨by rfl, ?_⟩) (by assumption) ?_
    rotate_left
    · intro w hSw; (try dsimp only at hSw); (try go_split_ands); go_simp; (try (with_reducible rfl))
    (try simp only [Act.put, List.setIfInBounds_toArray, List.set_cons_zero, List.set_cons_succ])
    refine wpAnyH_take (i := 7) (oi := ⟨some 7, _, _, _, _, _⟩) (v := ?_) rfl (by kernel_rfl) (by kernel_rfl) (by kernel_rfl) (fun _ _ _ h => h) (Or.inl ⟨by rfl, ?_⟩) (by assumption) ?_
    rotate_left
    · intro w hSw; (try dsimp only at hSw); (try go_split_ands); go_simp; (try (with_reducible rfl))
    (try simp only [Act.put, List.setIfInBounds_toArray, List.set_cons_zero, List.set_cons_succ])
    refine wpAnyH_take (i := 8) (oi := ⟨some 15, _, _, _, _, _⟩) (v := ?_) rfl (by kernel_rfl) (by kernel_rfl) (by kernel_rfl) (fun _ _ _ h => h) (Or.inl ⟨by rfl, ?_⟩) (by assumption) ?_
    rotate_left
    · intro w hSw; (try dsimp only at hSw); (try go_split_ands); go_simp; (try (with_reducible rfl))
    (try simp only [Act.put, List.setIfInBounds_toArray, List.set_cons_zero, List.set_cons_succ])
    refine wpAnyH_take (i := 9) (oi := ⟨some 16, _, _, _, _, _⟩) (v := ?_) rfl (by kernel_rfl) (by kernel_rfl) (by kernel_rfl) (fun _ _ _ h => h) (Or.inl ⟨by rfl, ?_⟩) (by assumption) ?_
    rotate_left
    · intro w hSw; (try dsimp only at hSw); (try go_split_ands); go_simp; (try (with_reducible rfl))
    (try simp only [Act.put, List.setIfInBounds_toArray, List.set_cons_zero, List.set_cons_succ])
    refine wpAnyH_ready (rs := [10]) (by kernel_rfl) (by simp) ?_
    refine AllReadyH.cons (o := ⟨some 5, _, _, _, _, _⟩) rfl (fun K hK => ?_) AllReadyH.nil
    go_simp
    have hZ : Below W0.heap.size W0 (W0.alloc (.cells #[.int .u64 0, .int .u32 0, .slice none 0 0, .int .u64 0] tVer)).drew := below_drew (below_alloc (Below.refl _ _) _)
    have hZx : (W0.alloc (.cells #[.int .u64 0, .int .u32 0, .slice none 0 0, .int .u64 0] tVer)).drew.heap[W0.heap.size]? = some (.cells #[.int .u64 0, .int .u32 0, .slice none 0 0, .int .u64 0] tVer (0, 0)) := blk_drew (blk_new W0 _)
    refine hK.out _ _ (S0 _ hZ) (fun _ => ?_)
    clear hK K
    (try simp only [Act.put, List.setIfInBounds_toArray, List.set_cons_zero, List.set_cons_succ])
    have y0 := blk_frozen hZx 0
    have y1 := blk_frozen hZx 1
    have y2 := blk_frozen hZx 2
    have y3 := blk_frozen hZx 3
    have z0 := blk_cell hZx 0
    have z1 := blk_cell hZx 1
    have z2 := blk_cell hZx 2
    have z3 := blk_cell hZx 3
    refine wpAnyH_ready (rs := [11]) (by kernel_rfl) (by simp) ?_
    refine AllReadyH.cons (o := ⟨none, _, _, _, _, _⟩) rfl (fun K hK => ?_) AllReadyH.nil
    go_simp
    have hZ2 : Below W0.heap.size W0 (W0.alloc (.cells #[.int .u64 y.f0.f0, .int .u32 y.f0.f1, .slice Ay y.f1.length cy, .int .u64 y.f2] tVer)).drew := below_drew (below_alloc (Below.refl _ _) _)
    refine hK.out _ _ (S0 _ hZ2) (fun _ => ?_)
    clear hK K
    (try simp only [Act.put, List.setIfInBounds_toArray, List.set_cons_zero, List.set_cons_succ])
    refine wpAnyH_take (i := 12) (oi := ⟨some 6, _, _, _, _, _⟩) (v := ?_) rfl (by kernel_rfl) (by kernel_rfl) (by kernel_rfl) (fun _ _ _ h => h) (Or.inl ⟨by rfl, ?_⟩) (by assumption) ?_
    rotate_left
    · intro w hSw; (try dsimp only at hSw); (try go_split_ands); go_simp; (try (with_reducible rfl))
    (try simp only [Act.put, List.setIfInBounds_toArray, List.set_cons_zero, List.set_cons_succ])
    refine wpAnyH_done (by kernel_rfl) ?_ _
    refine NoPanic.normal ?_
    clear y0 y1 y2 y3 z0 z1 z2 z3 hZ hZx S0 hS hlk
    go_wp2_with fail
    go_ret
    exact ⟨rfl, btr' hB0 hZ2⟩
set_option maxHeartbeats 4000000 in
theorem add_epoch (x : Ver) (A : Option Addr) (c : Nat) (w : World) (p m n : Nat) (R : Nat → Prop) (F : Nm → Option Ver) (h : Wo w p m n R F) (hx : Nok x.f0) (hF : F x.f0 = none) (h2 : x.f2 ≠ 0) (h3 : x.f2 ≤ x.f0.f0) :
    Calls Try.prog 20 #[.pointer (some ⟨p, 0, none⟩), .agg #[.int .u64 x.f0.f0, .int .u32 x.f0.f1, .slice A x.f1.length c, .int .u64 x.f2]] w fun e w' => e = .returned (.int .i64 101) ∧ Below w.heap.size w w' := by
  have d2 : (x.f2 != 0) = true := bne_iff_ne.2 h2
  have d3 : decide (x.f2 ≤ x.f0.f0) = true := decide_eq_true h3
  have hB0 := below_alloc (Below.refl w.heap.size w) (.cells #[.int .u64 x.f0.f0, .int .u32 x.f0.f1, .slice A x.f1.length c, .int .u64 x.f2] tVer)
  have hbx := blk_new w (.cells #[.int .u64 x.f0.f0, .int .u32 x.f0.f1, .slice A x.f1.length c, .int .u64 x.f2] tVer)
  go_enter Try.func20, Try.ntmps20
  go_wp2_with fail
  generalize w.alloc (.cells #[.int .u64 x.f0.f0, .int .u32 x.f0.f1, .slice A x.f1.length c, .int .u64 x.f2] tVer) = W0 at hB0 hbx ⊢
  have h0 := h.below hB0
  rcases h0.look x.f0 hx with ⟨_, hlk⟩ | ⟨y, Ay, cy, hy, _⟩
  · clear hF
    have S0 : ∀ V : World, Below W0.heap.size W0 V → V.cell? ⟨p, 0, none⟩ = some (.map (some m)) ∧ V.cell? ⟨w.heap.size, 0, none⟩ = some (.int .u64 x.f0.f0) ∧ V.cell? ⟨w.heap.size, 1, none⟩ = some (.int .u32 x.f0.f1) ∧ (Instr.lookup tMap (.map (some m)) (.agg #[.int .u64 x.f0.f0, .int .u32 x.f0.f1]) true).run Try.prog V = .ok (.tuple #[.agg #[.int .u64 0, .int .u32 0, .slice none 0 0, .int .u64 0], .bool false]) V ∧ Below W0.heap.size W0 V :=
      fun V hV => ⟨blk_cell (blk_below h0.box hV) 0, blk_cell (blk_below hbx hV) 0, blk_cell (blk_below hbx hV) 1, hlk V hV, hV⟩
    refine wp_region_noPanic ?_
    refine wp_region_held_drew (S := fun V : World => V.cell? ⟨p, 0, none⟩ = some (.map (some m)) ∧ V.cell? ⟨w.heap.size, 0, none⟩ = some (.int .u64 x.f0.f0) ∧ V.cell? ⟨w.heap.size, 1, none⟩ = some (.int .u32 x.f0.f1) ∧ (Instr.lookup tMap (.map (some m)) (.agg #[.int .u64 x.f0.f0, .int .u32 x.f0.f1]) true).run Try.prog V = .ok (.tuple #[.agg #[.int .u64 0, .int .u32 0, .slice none 0 0, .int .u64 0], .bool false]) V ∧ Below W0.heap.size W0 V) (by kernel_rfl) (S0 _ (below_drew (Below.refl _ _))) (fun hS => ?_)
    refine wpAnyH_take (i := 0) (oi := ⟨some 8, _, _, _, _, _⟩) (v := ?_) rfl (by kernel_rfl) (by kernel_rfl) (by kernel_rfl) (fun _ _ _ h => h) (Or.inl ⟨by rfl, ?_⟩) (by assumption) ?_
    rotate_left
    · intro w hSw; (try dsimp only at hSw); (try go_split_ands); go_simp; (try (with_reducible rfl))
    (try simp only [Act.put, List.setIfInBounds_toArray, List.set_cons_zero, List.set_cons_succ])
    refine wpAnyH_take (i := 1) (oi := ⟨some 9, _, _, _, _, _⟩) (v := ?_) rfl (by kernel_rfl) (by kernel_rfl) (by kernel_rfl) (fun _ _ _ h => h) (Or.inl ⟨by rfl, ?_⟩) (by assumption) ?_
    rotate_left
    · intro w hSw; (try dsimp only at hSw); (try go_split_ands); go_simp; (try (with_reducible rfl))
    (try simp only [Act.put, List.setIfInBounds_toArray, List.set_cons_zero, List.set_cons_succ])
    refine wpAnyH_take (i := 2) (oi := ⟨some 10, _, _, _, _, _⟩) (v := ?_) rfl (by kernel_rfl) (by kernel_rfl) (by kernel_rfl) (fun _ _ _ h => h) (Or.inl ⟨by rfl, ?_⟩) (by assumption) ?_
    rotate_left
    · intro w hSw; (try dsimp only at hSw); (try go_split_ands); go_simp; (try (with_reducible rfl))
    (try simp only [Act.put, List.setIfInBounds_toArray, List.set_cons_zero, List.set_cons_succ])
    refine wpAnyH_take (i := 3) (oi := ⟨some 11, _, _, _, _, _⟩) (v := ?_) rfl (by kernel_rfl) (by kernel_rfl) (by kernel_rfl) (fun _ _ _ h => h) (Or.inl ⟨by rfl, ?_⟩) (by assumption) ?_
    rotate_left
    · intro w hSw; (try dsimp only at hSw); (try go_split_ands); go_simp; (try (with_reducible rfl))
    (try simp only [Act.put, List.setIfInBounds_toArray, List.set_cons_zero, List.set_cons_succ])
    refine wpAnyH_take (i := 4) (oi := ⟨some 12, _, _, _, _, _⟩) (v := ?_) rfl (by kernel_rfl) (by kernel_rfl) (by kernel_rfl) (fun _ _ _ h => h) (Or.inl ⟨by rfl, ?_⟩) (by assumption) ?_
    rotate_left
    · intro w hSw; (try dsimp only at hSw); (try go_split_ands); go_simp; (try (with_reducible rfl))
    (try simp only [Act.put, List.setIfInBounds_toArray, List.set_cons_zero, List.set_cons_succ])
    refine wpAnyH_take (i := 5) (oi := ⟨some 13, _, _, _, _, _⟩) (v := ?_) rfl (by kernel_rfl) (by kernel_rfl) (by kernel_rfl) (fun _ _ _ h => h) (Or.inl ⟨by rfl, ?_⟩) (by assumption) ?_
    rotate_left
    · intro w hSw; (try dsimp only at hSw); (try go_split_ands); go_simp; (try (with_reducible rfl))
    (try simp only [Act.put, List.setIfInBounds_toArray, List.set_cons_zero, List.set_cons_succ])
    refine wpAnyH_take (i := 6) (oi := ⟨some 14, _, _, _, _, _⟩) (v := ?_) rfl (by kernel_rfl) (by kernel_rfl) (by kernel_rfl) (fun _ _ _ h => h) (Or.inl ⟨by rfl, ?_⟩) (by assumption) ?_
    rotate_left
    · intro w hSw; (try dsimp only at hSw); (try go_split_ands); go_simp; (try (with_reducible rfl))
    (try simp only [Act.put, List.setIfInBounds_toArray, List.set_cons_zero, List.set_cons_succ])
    refine wpAnyH_take (i := 7) (oi := ⟨some 7, _, _, _, _, _⟩) (v := ?_) rfl (by kernel_rfl) (by kernel_rfl) (by kernel_rfl) (fun _ _ _ h => h) (Or.inl ⟨by rfl, ?_⟩) (by assumption) ?_
    rotate_left
    · intro w hSw; (try dsimp only at hSw); (try go_split_ands); go_simp; (try (with_reducible rfl))
    (try simp only [Act.put, List.setIfInBounds_toArray, List.set_cons_zero, List.set_cons_succ])
    refine wpAnyH_take (i := 8) (oi := ⟨some 15, _, _, _, _, _⟩) (v := ?_) rfl (by kernel_rfl) (by kernel_rfl) (by kernel_rfl) (fun _ _ _ h => h) (Or.inl ⟨by rfl, ?_⟩) (by assumption) ?_
    rotate_left
    · intro w hSw; (try dsimp only at hSw); (try go_split_ands); go_simp; (try (with_reducible rfl))
    (try simp only [Act.put, List.setIfInBounds_toArray, List.set_cons_zero, List.set_cons_succ])
    refine wpAnyH_take (i := 9) (oi := ⟨some 16, _, _, _, _, _⟩) (v := ?_) rfl (by kernel_rfl) (by kernel_rfl) (by kernel_rfl) (fun _ _ _ h => h) (Or.inl ⟨by rfl, ?_⟩) (by assumption) ?_
    rotate_left
    · intro w hSw; (try dsimp only at hSw); (try go_split_ands); go_simp; (try (with_reducible rfl))
    (try simp only [Act.put, List.setIfInBounds_toArray, List.set_cons_zero, List.set_cons_succ])
    refine wpAnyH_ready (rs := [10]) (by kernel_rfl) (by simp) ?_
    refine AllReadyH.cons (o := ⟨some 5, _, _, _, _, _⟩) rfl (fun K hK => ?_) AllReadyH.nil
    go_simp
    have hZ : Below W0.heap.size W0 (W0.alloc (.cells #[.int .u64 0, .int .u32 0, .slice none 0 0, .int .u64 0] tVer)).drew := below_drew (below_alloc (Below.refl _ _) _)
    have hZx : (W0.alloc (.cells #[.int .u64 0, .int .u32 0, .slice none 0 0, .int .u64 0] tVer)).drew.heap[W0.heap.size]? = some (.cells #[.int .u64 0, .int .u32 0, .slice none 0 0, .int .u64 0] tVer (0, 0)) := blk_drew (blk_new W0 _)
    refine hK.out _ _ (S0 _ hZ) (fun _ => ?_)
    clear hK K
    (try simp only [Act.put, List.setIfInBounds_toArray, List.set_cons_zero, List.set_cons_succ])
    have y0 := blk_frozen hZx 0
    have y1 := blk_frozen hZx 1
    have y2 := blk_frozen hZx 2
    have y3 := blk_frozen hZx 3
    have z0 := blk_cell hZx 0
    have z1 := blk_cell hZx 1
    have z2 := blk_cell hZx 2
    have z3 := blk_cell hZx 3
    refine wpAnyH_ready (rs := [11]) (by kernel_rfl) (by simp) ?_
    refine AllReadyH.cons (o := ⟨none, _, _, _, _, _⟩) rfl (fun K hK => ?_) AllReadyH.nil
    go_simp
    have hZ2 : Below W0.heap.size W0 (W0.alloc (.cells #[.int .u64 0, .int .u32 0, .slice none 0 0, .int .u64 0] tVer)).drew := below_drew (below_alloc (Below.refl _ _) _)
    refine hK.out _ _ (S0 _ hZ2) (fun _ => ?_)
    clear hK K
    (try simp only [Act.put, List.setIfInBounds_toArray, List.set_cons_zero, List.set_cons_succ])
    refine wpAnyH_take (i := 12) (oi := ⟨some 6, _, _, _, _, _⟩) (v := ?_) rfl (by kernel_rfl) (by kernel_rfl) (by kernel_rfl) (fun _ _ _ h => h) (Or.inl ⟨by rfl, ?_⟩) (by assumption) ?_
    rotate_left
    · intro w hSw; (try dsimp only at hSw); (try go_split_ands); go_simp; (try (with_reducible rfl))
    (try simp only [Act.put, List.setIfInBounds_toArray, List.set_cons_zero, List.set_cons_succ])
    refine wpAnyH_done (by kernel_rfl) ?_ _
    refine NoPanic.normal ?_
    clear y0 y1 y2 y3 z0 z1 z2 z3 hZ hZx S0 hS hlk
    have hb2 := blk_below hbx hZ2
    have c0 := blk_cell hb2 0
    have c1 := blk_cell hb2 1
    have c2 := blk_cell hb2 2
    have c3 := blk_cell hb2 3
    go_wp2_with fail
    go_ret
    exact ⟨rfl, btr' hB0 hZ2⟩
  · rw [hF] at hy; cases hy
set_option maxHeartbeats 4000000 in
theorem add_ok (x : Ver) (A : Option Addr) (c : Nat) (w : World) (p m n : Nat) (R : Nat → Prop) (F : Nm → Option Ver) (h : Wo w p m n R F) (hx : Nok x.f0) (hr : kS.C w A x.f1.length x.f1) (hc : x.f1.length ≤ c) (hb : x.f1.length * 40 ≤ 140737488351232) (hn : n < maxLen) (hF : F x.f0 = none) (h2 : x.f2 = 0 ∨ (x.f2 ≠ 0 ∧ x.f0.f0 < x.f2)) :
    Calls Try.prog 20 #[.pointer (some ⟨p, 0, none⟩), .agg #[.int .u64 x.f0.f0, .int .u32 x.f0.f1, .slice A x.f1.length c, .int .u64 x.f2]] w fun e w' => e = .returned (.int .i64 0) ∧ Wo w' p m (n + 1) (fun k => R k ∨ w.heap.size ≤ k ∧ k < w'.heap.size) (updV F x.f0 (some x)) ∧ w.grownBy w' (some m) := by
  have hB0 := below_alloc (Below.refl w.heap.size w) (.cells #[.int .u64 x.f0.f0, .int .u32 x.f0.f1, .slice A x.f1.length c, .int .u64 x.f2] tVer)
  have hbx := blk_new w (.cells #[.int .u64 x.f0.f0, .int .u32 x.f0.f1, .slice A x.f1.length c, .int .u64 x.f2] tVer)
  go_enter Try.func20, Try.ntmps20
  go_wp2_with fail
  generalize w.alloc (.cells #[.int .u64 x.f0.f0, .int .u32 x.f0.f1, .slice A x.f1.length c, .int .u64 x.f2] tVer) = W0 at hB0 hbx ⊢
  have h0 := h.below hB0
  rcases h0.look x.f0 hx with ⟨_, hlk⟩ | ⟨y, Ay, cy, hy, _⟩
  · clear hF
    have S0 : ∀ V : World, Below W0.heap.size W0 V → V.cell? ⟨p, 0, none⟩ = some (.map (some m)) ∧ V.cell? ⟨w.heap.size, 0, none⟩ = some (.int .u64 x.f0.f0) ∧ V.cell? ⟨w.heap.size, 1, none⟩ = some (.int .u32 x.f0.f1) ∧ (Instr.lookup tMap (.map (some m)) (.agg #[.int .u64 x.f0.f0, .int .u32 x.f0.f1]) true).run Try.prog V = .ok (.tuple #[.agg #[.int .u64 0, .int .u32 0, .slice none 0 0, .int .u64 0], .bool false]) V ∧ Below W0.heap.size W0 V :=
      fun V hV => ⟨blk_cell (blk_below h0.box hV) 0, blk_cell (blk_below hbx hV) 0, blk_cell (blk_below hbx hV) 1, hlk V hV, hV⟩
    refine wp_region_noPanic ?_
    refine wp_region_held_drew (S := fun V : World => V.cell? ⟨p, 0, none⟩ = some (.map (some m)) ∧ V.cell? ⟨w.heap.size, 0, none⟩ = some (.int .u64 x.f0.f0) ∧ V.cell? ⟨w.heap.size, 1, none⟩ = some (.int .u32 x.f0.f1) ∧ (Instr.lookup tMap (.map (some m)) (.agg #[.int .u64 x.f0.f0, .int .u32 x.f0.f1]) true).run Try.prog V = .ok (.tuple #[.agg #[.int .u64 0, .int .u32 0, .slice none 0 0, .int .u64 0], .bool false]) V ∧ Below W0.heap.size W0 V) (by kernel_rfl) (S0 _ (below_drew (Below.refl _ _))) (fun hS => ?_)
    refine wpAnyH_take (i := 0) (oi := ⟨some 8, _, _, _, _, _⟩) (v := ?_) rfl (by kernel_rfl) (by kernel_rfl) (by kernel_rfl) (fun _ _ _ h => h) (Or.inl ⟨by rfl, ?_⟩) (by assumption) ?_
    rotate_left
    · intro w hSw; (try dsimp only at hSw); (try go_split_ands); go_simp; (try (with_reducible rfl))
    (try simp only [Act.put, List.setIfInBounds_toArray, List.set_cons_zero, List.set_cons_succ])
    refine wpAnyH_take (i := 1) (oi := ⟨some 9, _, _, _, _, _⟩) (v := ?_) rfl (by kernel_rfl) (by kernel_rfl) (by kernel_rfl) (fun _ _ _ h => h) (Or.inl ⟨by rfl, ?_⟩) (by assumption) ?_
    rotate_left
    · intro w hSw; (try dsimp only at hSw); (try go_split_ands); go_simp; (try (with_reducible rfl))
    (try simp only [Act.put, List.setIfInBounds_toArray, List.set_cons_zero, List.set_cons_succ])
    refine wpAnyH_take (i := 2) (oi := ⟨some 10, _, _, _, _, _⟩) (v := ?_) rfl (by kernel_rfl) (by kernel_rfl) (by kernel_rfl) (fun _ _ _ h => h) (Or.inl ⟨by rfl, ?_⟩) (by assumption) ?_
    rotate_left
    · intro w hSw; (try dsimp only at hSw); (try go_split_ands); go_simp; (try (with_reducible rfl))
    (try simp only [Act.put, List.setIfInBounds_toArray, List.set_cons_zero, List.set_cons_succ])
    refine wpAnyH_take (i := 3) (oi := ⟨some 11, _, _, _, _, _⟩) (v := ?_) rfl (by kernel_rfl) (by kernel_rfl) (by kernel_rfl) (fun _ _ _ h => h) (Or.inl ⟨by rfl, ?_⟩) (by assumption) ?_
    rotate_left
    · intro w hSw; (try dsimp only at hSw); (try go_split_ands); go_simp; (try (with_reducible rfl))
    (try simp only [Act.put, List.setIfInBounds_toArray, List.set_cons_zero, List.set_cons_succ])
    refine wpAnyH_take (i := 4) (oi := ⟨some 12, _, _, _, _, _⟩) (v := ?_) rfl (by kernel_rfl) (by kernel_rfl) (by kernel_rfl) (fun _ _ _ h => h) (Or.inl ⟨by rfl, ?_⟩) (by assumption) ?_
    rotate_left
    · intro w hSw; (try dsimp only at hSw); (try go_split_ands); go_simp; (try (with_reducible rfl))
    (try simp only [Act.put, List.setIfInBounds_toArray, List.set_cons_zero, List.set_cons_succ])
    refine wpAnyH_take (i := 5) (oi := ⟨some 13, _, _, _, _, _⟩) (v := ?_) rfl (by kernel_rfl) (by kernel_rfl) (by kernel_rfl) (fun _ _ _ h => h) (Or.inl ⟨by rfl, ?_⟩) (by assumption) ?_
    rotate_left
    · intro w hSw; (try dsimp only at hSw); (try go_split_ands); go_simp; (try (with_reducible rfl))
    (try simp only [Act.put, List.setIfInBounds_toArray, List.set_cons_zero, List.set_cons_succ])
    refine wpAnyH_take (i := 6) (oi := ⟨some 14, _, _, _, _, _⟩) (v := ?_) rfl (by kernel_rfl) (by kernel_rfl) (by kernel_rfl) (fun _ _ _ h => h) (Or.inl ⟨by rfl, ?_⟩) (by assumption) ?_
    rotate_left
    · intro w hSw; (try dsimp only at hSw); (try go_split_ands); go_simp; (try (with_reducible rfl))
    (try simp only [Act.put, List.setIfInBounds_toArray, List.set_cons_zero, List.set_cons_succ])
    refine wpAnyH_take (i := 7) (oi := ⟨some 7, _, _, _, _, _⟩) (v := ?_) rfl (by kernel_rfl) (by kernel_rfl) (by kernel_rfl) (fun _ _ _ h => h) (Or.inl ⟨by rfl, ?_⟩) (by assumption) ?_
    rotate_left
    · intro w hSw; (try dsimp only at hSw); (try go_split_ands); go_simp; (try (with_reducible rfl))
    (try simp only [Act.put, List.setIfInBounds_toArray, List.set_cons_zero, List.set_cons_succ])
    refine wpAnyH_take (i := 8) (oi := ⟨some 15, _, _, _, _, _⟩) (v := ?_) rfl (by kernel_rfl) (by kernel_rfl) (by kernel_rfl) (fun _ _ _ h => h) (Or.inl ⟨by rfl, ?_⟩) (by assumption) ?_
    rotate_left
    · intro w hSw; (try dsimp only at hSw); (try go_split_ands); go_simp; (try (with_reducible rfl))
    (try simp only [Act.put, List.setIfInBounds_toArray, List.set_cons_zero, List.set_cons_succ])
    refine wpAnyH_take (i := 9) (oi := ⟨some 16, _, _, _, _, _⟩) (v := ?_) rfl (by kernel_rfl) (by kernel_rfl) (by kernel_rfl) (fun _ _ _ h => h) (Or.inl ⟨by rfl, ?_⟩) (by assumption) ?_
    rotate_left
    · intro w hSw; (try dsimp only at hSw); (try go_split_ands); go_simp; (try (with_reducible rfl))
    (try simp only [Act.put, List.setIfInBounds_toArray, List.set_cons_zero, List.set_cons_succ])
    refine wpAnyH_ready (rs := [10]) (by kernel_rfl) (by simp) ?_
    refine AllReadyH.cons (o := ⟨some 5, _, _, _, _, _⟩) rfl (fun K hK => ?_) AllReadyH.nil
    go_simp
    have hZ : Below W0.heap.size W0 (W0.alloc (.cells #[.int .u64 0, .int .u32 0, .slice none 0 0, .int .u64 0] tVer)).drew := below_drew (below_alloc (Below.refl _ _) _)
    have hZx : (W0.alloc (.cells #[.int .u64 0, .int .u32 0, .slice none 0 0, .int .u64 0] tVer)).drew.heap[W0.heap.size]? = some (.cells #[.int .u64 0, .int .u32 0, .slice none 0 0, .int .u64 0] tVer (0, 0)) := blk_drew (blk_new W0 _)
    refine hK.out _ _ (S0 _ hZ) (fun _ => ?_)
    clear hK K
    (try simp only [Act.put, List.setIfInBounds_toArray, List.set_cons_zero, List.set_cons_succ])
    have y0 := blk_frozen hZx 0
    have y1 := blk_frozen hZx 1
    have y2 := blk_frozen hZx 2
    have y3 := blk_frozen hZx 3
    have z0 := blk_cell hZx 0
    have z1 := blk_cell hZx 1
    have z2 := blk_cell hZx 2
    have z3 := blk_cell hZx 3
    refine wpAnyH_ready (rs := [11]) (by kernel_rfl) (by simp) ?_
    refine AllReadyH.cons (o := ⟨none, _, _, _, _, _⟩) rfl (fun K hK => ?_) AllReadyH.nil
    go_simp
    have hZ2 : Below W0.heap.size W0 (W0.alloc (.cells #[.int .u64 0, .int .u32 0, .slice none 0 0, .int .u64 0] tVer)).drew := below_drew (below_alloc (Below.refl _ _) _)
    refine hK.out _ _ (S0 _ hZ2) (fun _ => ?_)
    clear hK K
    (try simp only [Act.put, List.setIfInBounds_toArray, List.set_cons_zero, List.set_cons_succ])
    refine wpAnyH_take (i := 12) (oi := ⟨some 6, _, _, _, _, _⟩) (v := ?_) rfl (by kernel_rfl) (by kernel_rfl) (by kernel_rfl) (fun _ _ _ h => h) (Or.inl ⟨by rfl, ?_⟩) (by assumption) ?_
    rotate_left
    · intro w hSw; (try dsimp only at hSw); (try go_split_ands); go_simp; (try (with_reducible rfl))
    (try simp only [Act.put, List.setIfInBounds_toArray, List.set_cons_zero, List.set_cons_succ])
    refine wpAnyH_done (by kernel_rfl) ?_ _
    refine NoPanic.normal ?_
    clear y0 y1 y2 y3 z0 z1 z2 z3 hZ hZx S0 hS hlk
    have hb1 := blk_below hbx hZ2
    have hB1 := btr' hB0 hZ2
    have h1 := h.below hB1
    have hr1 := Kd.C_below hr hB1
    generalize (W0.alloc (.cells #[.int .u64 0, .int .u32 0, .slice none 0 0, .int .u64 0] tVer)).drew = W1 at hb1 hB1 h1 hr1 hZ2 ⊢
    have c0 := blk_cell hb1 0
    have c1 := blk_cell hb1 1
    have c2 := blk_cell hb1 2
    have c3 := blk_cell hb1 3
    rcases h2 with h2 | h2
    · have d2 : (x.f2 != 0) = false := by rw [h2]; rfl
      clear h2
      go_wp2_with fail
      have S0 : ∀ V : World, V.heap[p]? = W1.heap[p]? → V.heap[w.heap.size]? = W1.heap[w.heap.size]? → V.cell? ⟨p, 0, none⟩ = some (.map (some m)) ∧ V.cell? ⟨w.heap.size, 0, none⟩ = some (.int .u64 x.f0.f0) ∧ V.cell? ⟨w.heap.size, 1, none⟩ = some (.int .u32 x.f0.f1) ∧ V.cell? ⟨w.heap.size, 2, none⟩ = some (.slice A x.f1.length c) ∧ V.cell? ⟨w.heap.size, 3, none⟩ = some (.int .u64 x.f2) :=
        fun V hp hb => ⟨blk_cell (hp.trans h1.box) 0, blk_cell (hb.trans hb1) 0, blk_cell (hb.trans hb1) 1, blk_cell (hb.trans hb1) 2, blk_cell (hb.trans hb1) 3⟩
      refine wp_region_noPanic ?_
      refine wp_region_held_drew (S := fun V : World => V.cell? ⟨p, 0, none⟩ = some (.map (some m)) ∧ V.cell? ⟨w.heap.size, 0, none⟩ = some (.int .u64 x.f0.f0) ∧ V.cell? ⟨w.heap.size, 1, none⟩ = some (.int .u32 x.f0.f1) ∧ V.cell? ⟨w.heap.size, 2, none⟩ = some (.slice A x.f1.length c) ∧ V.cell? ⟨w.heap.size, 3, none⟩ = some (.int .u64 x.f2)) (by kernel_rfl) (S0 _ rfl rfl) (fun hS => ?_)
      refine wpAnyH_take (i := 0) (oi := ⟨some 31, _, _, _, _, _⟩) (v := ?_) rfl (by kernel_rfl) (by kernel_rfl) (by kernel_rfl) (fun _ _ _ h => h) (Or.inl ⟨by rfl, ?_⟩) (by assumption) ?_
      rotate_left
      · intro w hSw; (try dsimp only at hSw); (try go_split_ands); go_simp; (try (with_reducible rfl))
      (try simp only [Act.put, List.setIfInBounds_toArray, List.set_cons_zero, List.set_cons_succ])
      refine wpAnyH_take (i := 1) (oi := ⟨some 32, _, _, _, _, _⟩) (v := ?_) rfl (by kernel_rfl) (by kernel_rfl) (by kernel_rfl) (fun _ _ _ h => h) (Or.inl ⟨by rfl, ?_⟩) (by assumption) ?_
      rotate_left
      · intro w hSw; (try dsimp only at hSw); (try go_split_ands); go_simp; (try (with_reducible rfl))
      (try simp only [Act.put, List.setIfInBounds_toArray, List.set_cons_zero, List.set_cons_succ])
      refine wpAnyH_take (i := 2) (oi := ⟨some 33, _, _, _, _, _⟩) (v := ?_) rfl (by kernel_rfl) (by kernel_rfl) (by kernel_rfl) (fun _ _ _ h => h) (Or.inl ⟨by rfl, ?_⟩) (by assumption) ?_
      rotate_left
      · intro w hSw; (try dsimp only at hSw); (try go_split_ands); go_simp; (try (with_reducible rfl))
      (try simp only [Act.put, List.setIfInBounds_toArray, List.set_cons_zero, List.set_cons_succ])
      refine wpAnyH_take (i := 3) (oi := ⟨some 34, _, _, _, _, _⟩) (v := ?_) rfl (by kernel_rfl) (by kernel_rfl) (by kernel_rfl) (fun _ _ _ h => h) (Or.inl ⟨by rfl, ?_⟩) (by assumption) ?_
      rotate_left
      · intro w hSw; (try dsimp only at hSw); (try go_split_ands); go_simp; (try (with_reducible rfl))
      (try simp only [Act.put, List.setIfInBounds_toArray, List.set_cons_zero, List.set_cons_succ])
      refine wpAnyH_take (i := 4) (oi := ⟨some 35, _, _, _, _, _⟩) (v := ?_) rfl (by kernel_rfl) (by kernel_rfl) (by kernel_rfl) (fun _ _ _ h => h) (Or.inl ⟨by rfl, ?_⟩) (by assumption) ?_
      rotate_left
      · intro w hSw; (try dsimp only at hSw); (try go_split_ands); go_simp; (try (with_reducible rfl))
      (try simp only [Act.put, List.setIfInBounds_toArray, List.set_cons_zero, List.set_cons_succ])
      refine wpAnyH_take (i := 5) (oi := ⟨some 36, _, _, _, _, _⟩) (v := ?_) rfl (by kernel_rfl) (by kernel_rfl) (by kernel_rfl) (fun _ _ _ h => h) (Or.inl ⟨by rfl, ?_⟩) (by assumption) ?_
      rotate_left
      · intro w hSw; (try dsimp only at hSw); (try go_split_ands); go_simp; (try (with_reducible rfl))
      (try simp only [Act.put, List.setIfInBounds_toArray, List.set_cons_zero, List.set_cons_succ])
      refine wpAnyH_take (i := 6) (oi := ⟨some 37, _, _, _, _, _⟩) (v := ?_) rfl (by kernel_rfl) (by kernel_rfl) (by kernel_rfl) (fun _ _ _ h => h) (Or.inl ⟨by rfl, ?_⟩) (by assumption) ?_
      rotate_left
      · intro w hSw; (try dsimp only at hSw); (try go_split_ands); go_simp; (try (with_reducible rfl))
      (try simp only [Act.put, List.setIfInBounds_toArray, List.set_cons_zero, List.set_cons_succ])
      refine wpAnyH_ready (rs := [7]) (by kernel_rfl) (by simp) ?_
      refine AllReadyH.cons (o := ⟨some 38, _, _, _, _, _⟩) rfl (fun K hK => ?_) AllReadyH.nil
      go_simp
      refine (own_any x A c W1.drew (Kd.C_drew hr1) hc (by omega)).mono ?_
      rintro e w2 ⟨v, rfl, hR, hb2⟩
      have h2w := h1.below (btr' (below_drew (Below.refl _ _)) hb2)
      have hbw : w2.heap[w.heap.size]? = W1.heap[w.heap.size]? := hb2.block _ (blk_lt hb1)
      obtain ⟨f, hm1, hm2⟩ := h2w.map
      obtain ⟨w3, hrun, hm3, ht3⟩ := hm1.put_ (tm := tMap) (e := tVer) Try.underlying74 hn hx (.agg #[.int .u64 x.f0.f0, .int .u32 x.f0.f1, v, .int .u64 x.f2])
      refine hK.out _ _ (S0 _ (h2w.box.trans h1.box.symm) hbw) (fun _ => ?_)
      clear hK K
      (try simp only [Act.put, List.setIfInBounds_toArray, List.set_cons_zero, List.set_cons_succ])
      refine wpAnyH_ready (rs := [8]) (by kernel_rfl) (by simp) ?_
      refine AllReadyH.cons (o := ⟨none, _, _, _, _, _⟩) rfl (fun K hK => ?_) AllReadyH.nil
      go_simp
      rw [show Sem.run Try.prog (Instr.mapUpdate tMap (Value.map (some m)) (Value.agg #[Value.int IntKind.u64 x.f0.f0, Value.int IntKind.u32 x.f0.f1]) (Value.agg #[Value.int IntKind.u64 x.f0.f0, Value.int IntKind.u32 x.f0.f1, v, Value.int IntKind.u64 x.f2])) w2 = Result.ok () w3 from hrun]
      have hg3 := ht3.grown
      have hne : w.heap.size ≠ m := by have := h.ml; omega
      refine hK.out _ w3 (S0 _ ((hg3.block p h2w.pl (by simpa using fun e => h2w.ne e.symm)).trans (h2w.box.trans h1.box.symm)) ((hg3.block _ (by have := blk_lt hb1; have := hb2.size; have hz : W1.drew.heap.size = W1.heap.size := rfl; omega) (by simpa using hne)).trans hbw)) (fun _ => ?_)
      clear hK K
      (try simp only [Act.put])
      refine wpAnyH_done (by kernel_rfl) ?_ _
      refine NoPanic.normal ?_
      clear S0 hS hrun
      go_wp2_with fail
      go_ret
      have hB2 := btr' hB1 (btr' (below_drew (Below.refl _ _)) hb2)
      exact ⟨rfl, wo_put h2w hm2 hm3 hg3 (Kd.R_lower hR (by have := hB1.size; have hz : W1.drew.heap.size = W1.heap.size := rfl; omega)) h.ml h.pl hb, grown_of hB2 hg3⟩
    · have e2 : (x.f2 != 0) = true := bne_iff_ne.2 h2.1
      have d3 : decide (x.f2 ≤ x.f0.f0) = false := decide_eq_false (by omega)
      clear h2
      go_wp2_with fail
      have S0 : ∀ V : World, V.heap[p]? = W1.heap[p]? → V.heap[w.heap.size]? = W1.heap[w.heap.size]? → V.cell? ⟨p, 0, none⟩ = some (.map (some m)) ∧ V.cell? ⟨w.heap.size, 0, none⟩ = some (.int .u64 x.f0.f0) ∧ V.cell? ⟨w.heap.size, 1, none⟩ = some (.int .u32 x.f0.f1) ∧ V.cell? ⟨w.heap.size, 2, none⟩ = some (.slice A x.f1.length c) ∧ V.cell? ⟨w.heap.size, 3, none⟩ = some (.int .u64 x.f2) :=
        fun V hp hb => ⟨blk_cell (hp.trans h1.box) 0, blk_cell (hb.trans hb1) 0, blk_cell (hb.trans hb1) 1, blk_cell (hb.trans hb1) 2, blk_cell (hb.trans hb1) 3⟩
      refine wp_region_noPanic ?_
      refine wp_region_held_drew (S := fun V : World => V.cell? ⟨p, 0, none⟩ = some (.map (some m)) ∧ V.cell? ⟨w.heap.size, 0, none⟩ = some (.int .u64 x.f0.f0) ∧ V.cell? ⟨w.heap.size, 1, none⟩ = some (.int .u32 x.f0.f1) ∧ V.cell? ⟨w.heap.size, 2, none⟩ = some (.slice A x.f1.length c) ∧ V.cell? ⟨w.heap.size, 3, none⟩ = some (.int .u64 x.f2)) (by kernel_rfl) (S0 _ rfl rfl) (fun hS => ?_)
      refine wpAnyH_take (i := 0) (oi := ⟨some 31, _, _, _, _, _⟩) (v := ?_) rfl (by kernel_rfl) (by kernel_rfl) (by kernel_rfl) (fun _ _ _ h => h) (Or.inl ⟨by rfl, ?_⟩) (by assumption) ?_
      rotate_left
      · intro w hSw; (try dsimp only at hSw); (try go_split_ands); go_simp; (try (with_reducible rfl))
      (try simp only [Act.put, List.setIfInBounds_toArray, List.set_cons_zero, List.set_cons_succ])
      refine wpAnyH_take (i := 1) (oi := ⟨some 32, _, _, _, _, _⟩) (v := ?_) rfl (by kernel_rfl) (by kernel_rfl) (by kernel_rfl) (fun _ _ _ h => h) (Or.inl ⟨by rfl, ?_⟩) (by assumption) ?_
      rotate_left
      · intro w hSw; (try dsimp only at hSw); (try go_split_ands); go_simp; (try (with_reducible rfl))
      (try simp only [Act.put, List.setIfInBounds_toArray, List.set_cons_zero, List.set_cons_succ])
      refine wpAnyH_take (i := 2) (oi := ⟨some 33, _, _, _, _, _⟩) (v := ?_) rfl (by kernel_rfl) (by kernel_rfl) (by kernel_rfl) (fun _ _ _ h => h) (Or.inl ⟨by rfl, ?_⟩) (by assumption) ?_
      rotate_left
      · intro w hSw; (try dsimp only at hSw); (try go_split_ands); go_simp; (try (with_reducible rfl))
      (try simp only [Act.put, List.setIfInBounds_toArray, List.set_cons_zero, List.set_cons_succ])
      refine wpAnyH_take (i := 3) (oi := ⟨some 34, _, _, _, _, _⟩) (v := ?_) rfl (by kernel_rfl) (by kernel_rfl) (by kernel_rfl) (fun _ _ _ h => h) (Or.inl ⟨by rfl, ?_⟩) (by assumption) ?_
      rotate_left
      · intro w hSw; (try dsimp only at hSw); (try go_split_ands); go_simp; (try (with_reducible rfl))
      (try simp only [Act.put, List.setIfInBounds_toArray, List.set_cons_zero, List.set_cons_succ])
      refine wpAnyH_take (i := 4) (oi := ⟨some 35, _, _, _, _, _⟩) (v := ?_) rfl (by kernel_rfl) (by kernel_rfl) (by kernel_rfl) (fun _ _ _ h => h) (Or.inl ⟨by rfl, ?_⟩) (by assumption) ?_
      rotate_left
      · intro w hSw; (try dsimp only at hSw); (try go_split_ands); go_simp; (try (with_reducible rfl))
      (try simp only [Act.put, List.setIfInBounds_toArray, List.set_cons_zero, List.set_cons_succ])
      refine wpAnyH_take (i := 5) (oi := ⟨some 36, _, _, _, _, _⟩) (v := ?_) rfl (by kernel_rfl) (by kernel_rfl) (by kernel_rfl) (fun _ _ _ h => h) (Or.inl ⟨by rfl, ?_⟩) (by assumption) ?_
      rotate_left
      · intro w hSw; (try dsimp only at hSw); (try go_split_ands); go_simp; (try (with_reducible rfl))
      (try simp only [Act.put, List.setIfInBounds_toArray, List.set_cons_zero, List.set_cons_succ])
      refine wpAnyH_take (i := 6) (oi := ⟨some 37, _, _, _, _, _⟩) (v := ?_) rfl (by kernel_rfl) (by kernel_rfl) (by kernel_rfl) (fun _ _ _ h => h) (Or.inl ⟨by rfl, ?_⟩) (by assumption) ?_
      rotate_left
      · intro w hSw; (try dsimp only at hSw); (try go_split_ands); go_simp; (try (with_reducible rfl))
      (try simp only [Act.put, List.setIfInBounds_toArray, List.set_cons_zero, List.set_cons_succ])
      refine wpAnyH_ready (rs := [7]) (by kernel_rfl) (by simp) ?_
      refine AllReadyH.cons (o := ⟨some 38, _, _, _, _, _⟩) rfl (fun K hK => ?_) AllReadyH.nil
      go_simp
      refine (own_any x A c W1.drew (Kd.C_drew hr1) hc (by omega)).mono ?_
      rintro e w2 ⟨v, rfl, hR, hb2⟩
      have h2w := h1.below (btr' (below_drew (Below.refl _ _)) hb2)
      have hbw : w2.heap[w.heap.size]? = W1.heap[w.heap.size]? := hb2.block _ (blk_lt hb1)
      obtain ⟨f, hm1, hm2⟩ := h2w.map
      obtain ⟨w3, hrun, hm3, ht3⟩ := hm1.put_ (tm := tMap) (e := tVer) Try.underlying74 hn hx (.agg #[.int .u64 x.f0.f0, .int .u32 x.f0.f1, v, .int .u64 x.f2])
      refine hK.out _ _ (S0 _ (h2w.box.trans h1.box.symm) hbw) (fun _ => ?_)
      clear hK K
      (try simp only [Act.put, List.setIfInBounds_toArray, List.set_cons_zero, List.set_cons_succ])
      refine wpAnyH_ready (rs := [8]) (by kernel_rfl) (by simp) ?_
      refine AllReadyH.cons (o := ⟨none, _, _, _, _, _⟩) rfl (fun K hK => ?_) AllReadyH.nil
      go_simp
      rw [show Sem.run Try.prog (Instr.mapUpdate tMap (Value.map (some m)) (Value.agg #[Value.int IntKind.u64 x.f0.f0, Value.int IntKind.u32 x.f0.f1]) (Value.agg #[Value.int IntKind.u64 x.f0.f0, Value.int IntKind.u32 x.f0.f1, v, Value.int IntKind.u64 x.f2])) w2 = Result.ok () w3 from hrun]
      have hg3 := ht3.grown
      have hne : w.heap.size ≠ m := by have := h.ml; omega
      refine hK.out _ w3 (S0 _ ((hg3.block p h2w.pl (by simpa using fun e => h2w.ne e.symm)).trans (h2w.box.trans h1.box.symm)) ((hg3.block _ (by have := blk_lt hb1; have := hb2.size; have hz : W1.drew.heap.size = W1.heap.size := rfl; omega) (by simpa using hne)).trans hbw)) (fun _ => ?_)
      clear hK K
      (try simp only [Act.put])
      refine wpAnyH_done (by kernel_rfl) ?_ _
      refine NoPanic.normal ?_
      clear S0 hS hrun
      go_wp2_with fail
      go_ret
      have hB2 := btr' hB1 (btr' (below_drew (Below.refl _ _)) hb2)
      exact ⟨rfl, wo_put h2w hm2 hm3 hg3 (Kd.R_lower hR (by have := hB1.size; have hz : W1.drew.heap.size = W1.heap.size := rfl; omega)) h.ml h.pl hb, grown_of hB2 hg3⟩
  · rw [hF] at hy; cases hy
end Go.Proofs.Ytacacigpendneaa.QV
/- (*Wos).Erase, Get, Len (printed by werase.py). -/
namespace Go.Proofs.Ytacacigpendneaa.QV
open Go.RowKit Go.Proofs.YtacacigpendneaaW.PrintWords Go.Proofs.Ytacacigpendneaa.Mp Go.Proofs.Ytacacigpendneaa.SeqW
set_option linter.unusedVariables false
set_option linter.unusedSimpArgs false
set_option maxRecDepth 100000
/-- A version's words are written anew; its row stays where it is. -/
theorem wo_upd {W W3 : World} {p m n : Nat} {R : Nat → Prop} {F : Nm → Option Ver} {f : Nm → Option Value} {x : Ver} {a : Nm} {A : Option Addr} {c : Nat} (h : Wo W p m n R F) (hf : RowsAt R W f F) (hx : x.f0 = a)
    (h3 : MapIs nmK W3 m (n + 1) (Mp.upd f a (some (.agg #[.int .u64 x.f0.f0, .int .u32 x.f0.f1, .slice A x.f1.length c, .int .u64 x.f2])))) (hg : W.grownBy W3 (some m)) (hc : x.f1.length ≤ c) (hC : ∀ V, (∀ k, R k → V.heap[k]? = W.heap[k]?) → kS.C V A x.f1.length x.f1) (hl : x.f1.length * 40 ≤ 140737488351232) :
    Wo W3 p m (n + 1) R (updV F a (some x)) := by
  subst hx
  have hgb : ∀ k, k < W.heap.size → k ≠ m → W3.heap[k]? = W.heap[k]? := fun k hk hn => hg.block k hk (by simpa using hn)
  refine ⟨(hgb p h.pl (fun e => h.ne e.symm)).trans h.box, h.ne, ⟨_, h3, ?_⟩, h.own.upd x, ?_, h.rm, h.rp, fun k hk => Nat.lt_of_lt_of_le (h.rl k hk) hg.size⟩
  · have hmv : RowsAt R W3 f F := hf.move hg.size (fun k hk hlt => hgb k hlt (fun e => h.rm (e ▸ hk)))
    refine hmv.upd_ x.f0 (fun W' hW => ⟨A, c, rfl, hc, hC W' (fun k hk => ?_)⟩)
    have hlt := h.rl k hk
    exact (hW k hk (Nat.lt_of_lt_of_le hlt hg.size)).trans (hgb k hlt (fun e => h.rm (e ▸ hk)))
  · intro k y hy
    unfold updV at hy
    split at hy
    · cases hy; exact hl
    · exact h.row k y hy
theorem four_cells {V : World} {b t : Nat} {a0 a1 a2 a3 : Value} (h : V.heap[b]? = some (.cells #[a0, a1, a2, a3] t (0, 0))) (u0 u1 u2 u3 : Value) :
    ((((V.setCell ⟨b, 0, none⟩ u0).setCell ⟨b, 1, none⟩ u1).setCell ⟨b, 2, none⟩ u2).setCell ⟨b, 3, none⟩ u3).heap[b]? = some (.cells #[u0, u1, u2, u3] t (0, 0)) ∧
    (∀ k, k ≠ b → ((((V.setCell ⟨b, 0, none⟩ u0).setCell ⟨b, 1, none⟩ u1).setCell ⟨b, 2, none⟩ u2).setCell ⟨b, 3, none⟩ u3).heap[k]? = V.heap[k]?) ∧
    ∀ B, B ≤ b → Below B V ((((V.setCell ⟨b, 0, none⟩ u0).setCell ⟨b, 1, none⟩ u1).setCell ⟨b, 2, none⟩ u2).setCell ⟨b, 3, none⟩ u3) := by
  refine ⟨blk_set (blk_set (blk_set (blk_set h 0 u0) 1 u1) 2 u2) 3 u3, fun k hk => ?_, fun B hB => ?_⟩
  · rw [Below.heap_setCell _ _ _ _ hk, Below.heap_setCell _ _ _ _ hk, Below.heap_setCell _ _ _ _ hk, Below.heap_setCell _ _ _ _ hk]
  · exact ((((Below.refl B V).setCell (p := ⟨b, 0, none⟩) hB u0).setCell (p := ⟨b, 1, none⟩) hB u1).setCell (p := ⟨b, 2, none⟩) hB u2).setCell (p := ⟨b, 3, none⟩) hB u3
set_option maxHeartbeats 4000000 in
theorem erase_none (a : Nm) (E : Int) (w : World) (p m n : Nat) (R : Nat → Prop) (F : Nm → Option Ver) (h : Wo w p m n R F) (ha : Nok a) (hF : F a = none) :
    Calls Try.prog 26 #[.pointer (some ⟨p, 0, none⟩), .agg #[.int .u64 a.f0, .int .u32 a.f1], .int .u64 E] w fun e w' => e = .returned (.int .i64 102) ∧ Below w.heap.size w w' := by
  have hB0 := below_alloc (Below.refl w.heap.size w) (.cells #[.int .u64 a.f0, .int .u32 a.f1] 25)
  have hbx := blk_new w (.cells #[.int .u64 a.f0, .int .u32 a.f1] 25)
  go_enter Try.func26, Try.ntmps26
  go_wp2_with fail
  generalize w.alloc (.cells #[.int .u64 a.f0, .int .u32 a.f1] 25) = W0 at hB0 hbx ⊢
  have h0 := h.below hB0
  rcases h0.look a ha with ⟨_, hlk⟩ | ⟨y, Ay, cy, hy, _⟩
  · clear hF
    have S0 : ∀ V : World, Below W0.heap.size W0 V → V.cell? ⟨p, 0, none⟩ = some (.map (some m)) ∧ V.cell? ⟨w.heap.size, 0, none⟩ = some (.int .u64 a.f0) ∧ V.cell? ⟨w.heap.size, 1, none⟩ = some (.int .u32 a.f1) ∧ (Instr.lookup tMap (.map (some m)) (.agg #[.int .u64 a.f0, .int .u32 a.f1]) true).run Try.prog V = .ok (.tuple #[.agg #[.int .u64 0, .int .u32 0, .slice none 0 0, .int .u64 0], .bool false]) V ∧ Below W0.heap.size W0 V :=
      fun V hV => ⟨blk_cell (blk_below h0.box hV) 0, blk_cell (blk_below hbx hV) 0, blk_cell (blk_below hbx hV) 1, hlk V hV, hV⟩
    refine wp_region_noPanic ?_
    refine wp_region_held_drew (S := fun V : World => V.cell? ⟨p, 0, none⟩ = some (.map (some m)) ∧ V.cell? ⟨w.heap.size, 0, none⟩ = some (.int .u64 a.f0) ∧ V.cell? ⟨w.heap.size, 1, none⟩ = some (.int .u32 a.f1) ∧ (Instr.lookup tMap (.map (some m)) (.agg #[.int .u64 a.f0, .int .u32 a.f1]) true).run Try.prog V = .ok (.tuple #[.agg #[.int .u64 0, .int .u32 0, .slice none 0 0, .int .u64 0], .bool false]) V ∧ Below W0.heap.size W0 V) (by kernel_rfl) (S0 _ (below_drew (Below.refl _ _))) (fun hS => ?_)
    refine wpAnyH_take (i := 0) (oi := ⟨some 10, _, _, _, _, _⟩) (v := ?_) rfl (by kernel_rfl) (by kernel_rfl) (by kernel_rfl) (fun _ _ _ h => h) (Or.inl ⟨by rfl, ?_⟩) (by assumption) ?_
    rotate_left
    · intro w hSw; (try dsimp only at hSw); (try go_split_ands); go_simp; (try (with_reducible rfl))
    (try simp only [Act.put, List.setIfInBounds_toArray, List.set_cons_zero, List.set_cons_succ])
    refine wpAnyH_take (i := 1) (oi := ⟨some 11, _, _, _, _, _⟩) (v := ?_) rfl (by kernel_rfl) (by kernel_rfl) (by kernel_rfl) (fun _ _ _ h => h) (Or.inl ⟨by rfl, ?_⟩) (by assumption) ?_
    rotate_left
    · intro w hSw; (try dsimp only at hSw); (try go_split_ands); go_simp; (try (with_reducible rfl))
    (try simp only [Act.put, List.setIfInBounds_toArray, List.set_cons_zero, List.set_cons_succ])
    refine wpAnyH_take (i := 2) (oi := ⟨some 12, _, _, _, _, _⟩) (v := ?_) rfl (by kernel_rfl) (by kernel_rfl) (by kernel_rfl) (fun _ _ _ h => h) (Or.inl ⟨by rfl, ?_⟩) (by assumption) ?_
    rotate_left
    · intro w hSw; (try dsimp only at hSw); (try go_split_ands); go_simp; (try (with_reducible rfl))
    (try simp only [Act.put, List.setIfInBounds_toArray, List.set_cons_zero, List.set_cons_succ])
    refine wpAnyH_take (i := 3) (oi := ⟨some 13, _, _, _, _, _⟩) (v := ?_) rfl (by kernel_rfl) (by kernel_rfl) (by kernel_rfl) (fun _ _ _ h => h) (Or.inl ⟨by rfl, ?_⟩) (by assumption) ?_
    rotate_left
    · intro w hSw; (try dsimp only at hSw); (try go_split_ands); go_simp; (try (with_reducible rfl))
    (try simp only [Act.put, List.setIfInBounds_toArray, List.set_cons_zero, List.set_cons_succ])
    refine wpAnyH_take (i := 4) (oi := ⟨some 14, _, _, _, _, _⟩) (v := ?_) rfl (by kernel_rfl) (by kernel_rfl) (by kernel_rfl) (fun _ _ _ h => h) (Or.inl ⟨by rfl, ?_⟩) (by assumption) ?_
    rotate_left
    · intro w hSw; (try dsimp only at hSw); (try go_split_ands); go_simp; (try (with_reducible rfl))
    (try simp only [Act.put, List.setIfInBounds_toArray, List.set_cons_zero, List.set_cons_succ])
    refine wpAnyH_take (i := 5) (oi := ⟨some 15, _, _, _, _, _⟩) (v := ?_) rfl (by kernel_rfl) (by kernel_rfl) (by kernel_rfl) (fun _ _ _ h => h) (Or.inl ⟨by rfl, ?_⟩) (by assumption) ?_
    rotate_left
    · intro w hSw; (try dsimp only at hSw); (try go_split_ands); go_simp; (try (with_reducible rfl))
    (try simp only [Act.put, List.setIfInBounds_toArray, List.set_cons_zero, List.set_cons_succ])
    refine wpAnyH_take (i := 6) (oi := ⟨some 9, _, _, _, _, _⟩) (v := ?_) rfl (by kernel_rfl) (by kernel_rfl) (by kernel_rfl) (fun _ _ _ h => h) (Or.inl ⟨by rfl, ?_⟩) (by assumption) ?_
    rotate_left
    · intro w hSw; (try dsimp only at hSw); (try go_split_ands); go_simp; (try (with_reducible rfl))
    (try simp only [Act.put, List.setIfInBounds_toArray, List.set_cons_zero, List.set_cons_succ])
    refine wpAnyH_take (i := 7) (oi := ⟨some 16, _, _, _, _, _⟩) (v := ?_) rfl (by kernel_rfl) (by kernel_rfl) (by kernel_rfl) (fun _ _ _ h => h) (Or.inl ⟨by rfl, ?_⟩) (by assumption) ?_
    rotate_left
    · intro w hSw; (try dsimp only at hSw); (try go_split_ands); go_simp; (try (with_reducible rfl))
    (try simp only [Act.put, List.setIfInBounds_toArray, List.set_cons_zero, List.set_cons_succ])
    refine wpAnyH_take (i := 8) (oi := ⟨some 17, _, _, _, _, _⟩) (v := ?_) rfl (by kernel_rfl) (by kernel_rfl) (by kernel_rfl) (fun _ _ _ h => h) (Or.inl ⟨by rfl, ?_⟩) (by assumption) ?_
    rotate_left
    · intro w hSw; (try dsimp only at hSw); (try go_split_ands); go_simp; (try (with_reducible rfl))
    (try simp only [Act.put, List.setIfInBounds_toArray, List.set_cons_zero, List.set_cons_succ])
    refine wpAnyH_ready (rs := [9]) (by kernel_rfl) (by simp) ?_
    refine AllReadyH.cons (o := ⟨some 7, _, _, _, _, _⟩) rfl (fun K hK => ?_) AllReadyH.nil
    go_simp
    have hZ : Below W0.heap.size W0 (W0.alloc (.cells #[.int .u64 0, .int .u32 0, .slice none 0 0, .int .u64 0] tVer)).drew := below_drew (below_alloc (Below.refl _ _) _)
    have hZx : (W0.alloc (.cells #[.int .u64 0, .int .u32 0, .slice none 0 0, .int .u64 0] tVer)).drew.heap[W0.heap.size]? = some (.cells #[.int .u64 0, .int .u32 0, .slice none 0 0, .int .u64 0] tVer (0, 0)) := blk_drew (blk_new W0 _)
    refine hK.out _ _ (S0 _ hZ) (fun _ => ?_)
    clear hK K
    (try simp only [Act.put, List.setIfInBounds_toArray, List.set_cons_zero, List.set_cons_succ])
    have y0 := blk_frozen hZx 0
    have y1 := blk_frozen hZx 1
    have y2 := blk_frozen hZx 2
    have y3 := blk_frozen hZx 3
    have z0 := blk_cell hZx 0
    have z1 := blk_cell hZx 1
    have z2 := blk_cell hZx 2
    have z3 := blk_cell hZx 3
    refine wpAnyH_ready (rs := [10]) (by kernel_rfl) (by simp) ?_
    refine AllReadyH.cons (o := ⟨none, _, _, _, _, _⟩) rfl (fun K hK => ?_) AllReadyH.nil
    go_simp
    have hZ2 : Below W0.heap.size W0 (W0.alloc (.cells #[.int .u64 0, .int .u32 0, .slice none 0 0, .int .u64 0] tVer)).drew := below_drew (below_alloc (Below.refl _ _) _)
    refine hK.out _ _ (S0 _ hZ2) (fun _ => ?_)
    clear hK K
    (try simp only [Act.put, List.setIfInBounds_toArray, List.set_cons_zero, List.set_cons_succ])
    refine wpAnyH_take (i := 11) (oi := ⟨some 8, _, _, _, _, _⟩) (v := ?_) rfl (by kernel_rfl) (by kernel_rfl) (by kernel_rfl) (fun _ _ _ h => h) (Or.inl ⟨by rfl, ?_⟩) (by assumption) ?_
    rotate_left
    · intro w hSw; (try dsimp only at hSw); (try go_split_ands); go_simp; (try (with_reducible rfl))
    (try simp only [Act.put, List.setIfInBounds_toArray, List.set_cons_zero, List.set_cons_succ])
    refine wpAnyH_done (by kernel_rfl) ?_ _
    refine NoPanic.normal ?_
    clear y0 y1 y2 y3 z0 z1 z2 z3 hZ hZx S0 hS hlk
    have hn1 : (W0.alloc (.cells #[.int .u64 0, .int .u32 0, .slice none 0 0, .int .u64 0] tVer)).drew.heap[W0.heap.size]? = some (.cells #[.int .u64 0, .int .u32 0, .slice none 0 0, .int .u64 0] tVer (0, 0)) := blk_drew (blk_new W0 _)
    have hB1 := btr' hB0 hZ2
    have hb1 := blk_below hbx hZ2
    have h1 := h0.below hZ2
    have hs1 : W0.heap.size < (W0.alloc (.cells #[.int .u64 0, .int .u32 0, .slice none 0 0, .int .u64 0] tVer)).drew.heap.size := blk_lt hn1
    generalize (W0.alloc (.cells #[.int .u64 0, .int .u32 0, .slice none 0 0, .int .u64 0] tVer)).drew = W1 at hn1 hB1 hb1 h1 hZ2 hs1 ⊢
    have c0 := blk_cell hb1 0
    have c1 := blk_cell hb1 1
    have z0 := blk_cell hn1 0
    have z1 := blk_cell hn1 1
    have z2 := blk_cell hn1 2
    have z3 := blk_cell hn1 3
    have y0 := blk_frozen hn1 0
    have y1 := blk_frozen hn1 1
    have y2 := blk_frozen hn1 2
    have y3 := blk_frozen hn1 3
    go_wp2_with fail
    go_ret
    exact ⟨rfl, hB1⟩
  · rw [hF] at hy; cases hy
set_option maxHeartbeats 4000000 in
theorem erase_epoch (a : Nm) (E : Int) (w : World) (p m n : Nat) (R : Nat → Prop) (F : Nm → Option Ver) (h : Wo w p m n R F) (ha : Nok a) (y : Ver) (hF : F a = some y) (h1 : E ≤ a.f0) :
    Calls Try.prog 26 #[.pointer (some ⟨p, 0, none⟩), .agg #[.int .u64 a.f0, .int .u32 a.f1], .int .u64 E] w fun e w' => e = .returned (.int .i64 101) ∧ Below w.heap.size w w' := by
  have d1 : decide (E ≤ a.f0) = true := decide_eq_true h1
  have hB0 := below_alloc (Below.refl w.heap.size w) (.cells #[.int .u64 a.f0, .int .u32 a.f1] 25)
  have hbx := blk_new w (.cells #[.int .u64 a.f0, .int .u32 a.f1] 25)
  go_enter Try.func26, Try.ntmps26
  go_wp2_with fail
  generalize w.alloc (.cells #[.int .u64 a.f0, .int .u32 a.f1] 25) = W0 at hB0 hbx ⊢
  have h0 := h.below hB0
  rcases h0.look a ha with ⟨hn, _⟩ | ⟨y', Ay, cy, hy, hyc, hyC, hlk⟩
  · rw [hF] at hn; cases hn
  · obtain rfl : y = y' := Option.some.inj (hF.symm.trans hy)
    clear hy
    have S0 : ∀ V : World, Below W0.heap.size W0 V → V.cell? ⟨p, 0, none⟩ = some (.map (some m)) ∧ V.cell? ⟨w.heap.size, 0, none⟩ = some (.int .u64 a.f0) ∧ V.cell? ⟨w.heap.size, 1, none⟩ = some (.int .u32 a.f1) ∧ (Instr.lookup tMap (.map (some m)) (.agg #[.int .u64 a.f0, .int .u32 a.f1]) true).run Try.prog V = .ok (.tuple #[.agg #[.int .u64 y.f0.f0, .int .u32 y.f0.f1, .slice Ay y.f1.length cy, .int .u64 y.f2], .bool true]) V ∧ Below W0.heap.size W0 V :=
      fun V hV => ⟨blk_cell (blk_below h0.box hV) 0, blk_cell (blk_below hbx hV) 0, blk_cell (blk_below hbx hV) 1, hlk V hV, hV⟩
    refine wp_region_noPanic ?_
    refine wp_region_held_drew (S := fun V : World => V.cell? ⟨p, 0, none⟩ = some (.map (some m)) ∧ V.cell? ⟨w.heap.size, 0, none⟩ = some (.int .u64 a.f0) ∧ V.cell? ⟨w.heap.size, 1, none⟩ = some (.int .u32 a.f1) ∧ (Instr.lookup tMap (.map (some m)) (.agg #[.int .u64 a.f0, .int .u32 a.f1]) true).run Try.prog V = .ok (.tuple #[.agg #[.int .u64 y.f0.f0, .int .u32 y.f0.f1, .slice Ay y.f1.length cy, .int .u64 y.f2], .bool true]) V ∧ Below W0.heap.size W0 V) (by kernel_rfl) (S0 _ (below_drew (Below.refl _ _))) (fun hS => ?_)
    refine wpAnyH_take (i := 0) (oi := ⟨some 10, _, _, _, _, _⟩) (v := ?_) rfl (by kernel_rfl) (by kernel_rfl) (by kernel_rfl) (fun _ _ _ h => h) (Or.inl ⟨by rfl, ?_⟩) (by assumption) ?_
    rotate_left
    · intro w hSw; (try dsimp only at hSw); (try go_split_ands); go_simp; (try (with_reducible rfl))
    (try simp only [Act.put, List.setIfInBounds_toArray, List.set_cons_zero, List.set_cons_succ])
    refine wpAnyH_take (i := 1) (oi := ⟨some 11, _, _, _, _, _⟩) (v := ?_) rfl (by kernel_rfl) (by kernel_rfl) (by kernel_rfl) (fun _ _ _ h => h) (Or.inl ⟨by rfl, ?_⟩) (by assumption) ?_
    rotate_left
    · intro w hSw; (try dsimp only at hSw); (try go_split_ands); go_simp; (try (with_reducible rfl))
    (try simp only [Act.put, List.setIfInBounds_toArray, List.set_cons_zero, List.set_cons_succ])
    refine wpAnyH_take (i := 2) (oi := ⟨some 12, _, _, _, _, _⟩) (v := ?_) rfl (by kernel_rfl) (by kernel_rfl) (by kernel_rfl) (fun _ _ _ h => h) (Or.inl ⟨by rfl, ?_⟩) (by assumption) ?_
    rotate_left
    · intro w hSw; (try dsimp only at hSw); (try go_split_ands); go_simp; (try (with_reducible rfl))
    (try simp only [Act.put, List.setIfInBounds_toArray, List.set_cons_zero, List.set_cons_succ])
    refine wpAnyH_take (i := 3) (oi := ⟨some 13, _, _, _, _, _⟩) (v := ?_) rfl (by kernel_rfl) (by kernel_rfl) (by kernel_rfl) (fun _ _ _ h => h) (Or.inl ⟨by rfl, ?_⟩) (by assumption) ?_
    rotate_left
    · intro w hSw; (try dsimp only at hSw); (try go_split_ands); go_simp; (try (with_reducible rfl))
    (try simp only [Act.put, List.setIfInBounds_toArray, List.set_cons_zero, List.set_cons_succ])
    refine wpAnyH_take (i := 4) (oi := ⟨some 14, _, _, _, _, _⟩) (v := ?_) rfl (by kernel_rfl) (by kernel_rfl) (by kernel_rfl) (fun _ _ _ h => h) (Or.inl ⟨by rfl, ?_⟩) (by assumption) ?_
    rotate_left
    · intro w hSw; (try dsimp only at hSw); (try go_split_ands); go_simp; (try (with_reducible rfl))
    (try simp only [Act.put, List.setIfInBounds_toArray, List.set_cons_zero, List.set_cons_succ])
    refine wpAnyH_take (i := 5) (oi := ⟨some 15, _, _, _, _, _⟩) (v := ?_) rfl (by kernel_rfl) (by kernel_rfl) (by kernel_rfl) (fun _ _ _ h => h) (Or.inl ⟨by rfl, ?_⟩) (by assumption) ?_
    rotate_left
    · intro w hSw; (try dsimp only at hSw); (try go_split_ands); go_simp; (try (with_reducible rfl))
    (try simp only [Act.put, List.setIfInBounds_toArray, List.set_cons_zero, List.set_cons_succ])
    refine wpAnyH_take (i := 6) (oi := ⟨some 9, _, _, _, _, _⟩) (v := ?_) rfl (by kernel_rfl) (by kernel_rfl) (by kernel_rfl) (fun _ _ _ h => h) (Or.inl ⟨by rfl, ?_⟩) (by assumption) ?_
    rotate_left
    · intro w hSw; (try dsimp only at hSw); (try go_split_ands); go_simp; (try (with_reducible rfl))
    (try simp only [Act.put, List.setIfInBounds_toArray, List.set_cons_zero, List.set_cons_succ])
    refine wpAnyH_take (i := 7) (oi := ⟨some 16, _, _, _, _, _⟩) (v := ?_) rfl (by kernel_rfl) (by kernel_rfl) (by kernel_rfl) (fun _ _ _ h => h) (Or.inl ⟨by rfl, ?_⟩) (by assumption) ?_
    rotate_left
    · intro w hSw; (try dsimp only at hSw); (try go_split_ands); go_simp; (try (with_reducible rfl))
    (try simp only [Act.put, List.setIfInBounds_toArray, List.set_cons_zero, List.set_cons_succ])
    refine wpAnyH_take (i := 8) (oi := ⟨some 17, _, _, _, _, _⟩) (v := ?_) rfl (by kernel_rfl) (by kernel_rfl) (by kernel_rfl) (fun _ _ _ h => h) (Or.inl ⟨by rfl, ?_⟩) (by assumption) ?_
    rotate_left
    · intro w hSw; (try dsimp only at hSw); (try go_split_ands); go_simp; (try (with_reducible rfl))
    (try simp only [Act.put, List.setIfInBounds_toArray, List.set_cons_zero, List.set_cons_succ])
    refine wpAnyH_ready (rs := [9]) (by kernel_rfl) (by simp) ?_
    refine AllReadyH.cons (o := ⟨some 7, _, _, _, _, _⟩) rfl (fun K hK => ?_) AllReadyH.nil
    go_simp
    have hZ : Below W0.heap.size W0 (W0.alloc (.cells #[.int .u64 0, .int .u32 0, .slice none 0 0, .int .u64 0] tVer)).drew := below_drew (below_alloc (Below.refl _ _) _)
    have hZx : (W0.alloc (.cells #[.int .u64 0, .int .u32 0, .slice none 0 0, .int .u64 0] tVer)).drew.heap[W0.heap.size]? = some (.cells #[.int .u64 0, .int .u32 0, .slice none 0 0, .int .u64 0] tVer (0, 0)) := blk_drew (blk_new W0 _)
    refine hK.out _ _ (S0 _ hZ) (fun _ => ?_)
    clear hK K
    (try simp only [Act.put, List.setIfInBounds_toArray, List.set_cons_zero, List.set_cons_succ])
    have y0 := blk_frozen hZx 0
    have y1 := blk_frozen hZx 1
    have y2 := blk_frozen hZx 2
    have y3 := blk_frozen hZx 3
    have z0 := blk_cell hZx 0
    have z1 := blk_cell hZx 1
    have z2 := blk_cell hZx 2
    have z3 := blk_cell hZx 3
    refine wpAnyH_ready (rs := [10]) (by kernel_rfl) (by simp) ?_
    refine AllReadyH.cons (o := ⟨none, _, _, _, _, _⟩) rfl (fun K hK => ?_) AllReadyH.nil
    go_simp
    have hZ2 : Below W0.heap.size W0 (W0.alloc (.cells #[.int .u64 y.f0.f0, .int .u32 y.f0.f1, .slice Ay y.f1.length cy, .int .u64 y.f2] tVer)).drew := below_drew (below_alloc (Below.refl _ _) _)
    refine hK.out _ _ (S0 _ hZ2) (fun _ => ?_)
    clear hK K
    (try simp only [Act.put, List.setIfInBounds_toArray, List.set_cons_zero, List.set_cons_succ])
    refine wpAnyH_take (i := 11) (oi := ⟨some 8, _, _, _, _, _⟩) (v := ?_) rfl (by kernel_rfl) (by kernel_rfl) (by kernel_rfl) (fun _ _ _ h => h) (Or.inl ⟨by rfl, ?_⟩) (by assumption) ?_
    rotate_left
    · intro w hSw; (try dsimp only at hSw); (try go_split_ands); go_simp; (try (with_reducible rfl))
    (try simp only [Act.put, List.setIfInBounds_toArray, List.set_cons_zero, List.set_cons_succ])
    refine wpAnyH_done (by kernel_rfl) ?_ _
    refine NoPanic.normal ?_
    clear y0 y1 y2 y3 z0 z1 z2 z3 hZ hZx S0 hS hlk
    have hn1 : (W0.alloc (.cells #[.int .u64 y.f0.f0, .int .u32 y.f0.f1, .slice Ay y.f1.length cy, .int .u64 y.f2] tVer)).drew.heap[W0.heap.size]? = some (.cells #[.int .u64 y.f0.f0, .int .u32 y.f0.f1, .slice Ay y.f1.length cy, .int .u64 y.f2] tVer (0, 0)) := blk_drew (blk_new W0 _)
    have hB1 := btr' hB0 hZ2
    have hb1 := blk_below hbx hZ2
    have h1 := h0.below hZ2
    have hs1 : W0.heap.size < (W0.alloc (.cells #[.int .u64 y.f0.f0, .int .u32 y.f0.f1, .slice Ay y.f1.length cy, .int .u64 y.f2] tVer)).drew.heap.size := blk_lt hn1
    generalize (W0.alloc (.cells #[.int .u64 y.f0.f0, .int .u32 y.f0.f1, .slice Ay y.f1.length cy, .int .u64 y.f2] tVer)).drew = W1 at hn1 hB1 hb1 h1 hZ2 hs1 ⊢
    have c0 := blk_cell hb1 0
    have c1 := blk_cell hb1 1
    have z0 := blk_cell hn1 0
    have z1 := blk_cell hn1 1
    have z2 := blk_cell hn1 2
    have z3 := blk_cell hn1 3
    have y0 := blk_frozen hn1 0
    have y1 := blk_frozen hn1 1
    have y2 := blk_frozen hn1 2
    have y3 := blk_frozen hn1 3
    go_wp2_with fail
    go_ret
    exact ⟨rfl, hB1⟩
set_option maxHeartbeats 4000000 in
theorem erase_erased (a : Nm) (E : Int) (w : World) (p m n : Nat) (R : Nat → Prop) (F : Nm → Option Ver) (h : Wo w p m n R F) (ha : Nok a) (y : Ver) (hF : F a = some y) (h1 : a.f0 < E) (h2 : y.f2 ≠ 0) :
    Calls Try.prog 26 #[.pointer (some ⟨p, 0, none⟩), .agg #[.int .u64 a.f0, .int .u32 a.f1], .int .u64 E] w fun e w' => e = .returned (.int .i64 103) ∧ Below w.heap.size w w' := by
  have d1 : decide (E ≤ a.f0) = false := decide_eq_false (by omega)
  have d2 : (y.f2 != 0) = true := bne_iff_ne.2 h2
  clear h1 h2
  have hB0 := below_alloc (Below.refl w.heap.size w) (.cells #[.int .u64 a.f0, .int .u32 a.f1] 25)
  have hbx := blk_new w (.cells #[.int .u64 a.f0, .int .u32 a.f1] 25)
  go_enter Try.func26, Try.ntmps26
  go_wp2_with fail
  generalize w.alloc (.cells #[.int .u64 a.f0, .int .u32 a.f1] 25) = W0 at hB0 hbx ⊢
  have h0 := h.below hB0
  rcases h0.look a ha with ⟨hn, _⟩ | ⟨y', Ay, cy, hy, hyc, hyC, hlk⟩
  · rw [hF] at hn; cases hn
  · obtain rfl : y = y' := Option.some.inj (hF.symm.trans hy)
    clear hy
    have S0 : ∀ V : World, Below W0.heap.size W0 V → V.cell? ⟨p, 0, none⟩ = some (.map (some m)) ∧ V.cell? ⟨w.heap.size, 0, none⟩ = some (.int .u64 a.f0) ∧ V.cell? ⟨w.heap.size, 1, none⟩ = some (.int .u32 a.f1) ∧ (Instr.lookup tMap (.map (some m)) (.agg #[.int .u64 a.f0, .int .u32 a.f1]) true).run Try.prog V = .ok (.tuple #[.agg #[.int .u64 y.f0.f0, .int .u32 y.f0.f1, .slice Ay y.f1.length cy, .int .u64 y.f2], .bool true]) V ∧ Below W0.heap.size W0 V :=
      fun V hV => ⟨blk_cell (blk_below h0.box hV) 0, blk_cell (blk_below hbx hV) 0, blk_cell (blk_below hbx hV) 1, hlk V hV, hV⟩
    refine wp_region_noPanic ?_
    refine wp_region_held_drew (S := fun V : World => V.cell? ⟨p, 0, none⟩ = some (.map (some m)) ∧ V.cell? ⟨w.heap.size, 0, none⟩ = some (.int .u64 a.f0) ∧ V.cell? ⟨w.heap.size, 1, none⟩ = some (.int .u32 a.f1) ∧ (Instr.lookup tMap (.map (some m)) (.agg #[.int .u64 a.f0, .int .u32 a.f1]) true).run Try.prog V = .ok (.tuple #[.agg #[.int .u64 y.f0.f0, .int .u32 y.f0.f1, .slice Ay y.f1.length cy, .int .u64 y.f2], .bool true]) V ∧ Below W0.heap.size W0 V) (by kernel_rfl) (S0 _ (below_drew (Below.refl _ _))) (fun hS => ?_)
    refine wpAnyH_take (i := 0) (oi := ⟨some 10, _, _, _, _, _⟩) (v := ?_) rfl (by kernel_rfl) (by kernel_rfl) (by kernel_rfl) (fun _ _ _ h => h) (Or.inl ⟨by rfl, ?_⟩) (by assumption) ?_
    rotate_left
    · intro w hSw; (try dsimp only at hSw); (try go_split_ands); go_simp; (try (with_reducible rfl))
    (try simp only [Act.put, List.setIfInBounds_toArray, List.set_cons_zero, List.set_cons_succ])
    refine wpAnyH_take (i := 1) (oi := ⟨some 11, _, _, _, _, _⟩) (v := ?_) rfl (by kernel_rfl) (by kernel_rfl) (by kernel_rfl) (fun _ _ _ h => h) (Or.inl ⟨by rfl, ?_⟩) (by assumption) ?_
    rotate_left
    · intro w hSw; (try dsimp only at hSw); (try go_split_ands); go_simp; (try (with_reducible rfl))
    (try simp only [Act.put, List.setIfInBounds_toArray, List.set_cons_zero, List.set_cons_succ])
    refine wpAnyH_take (i := 2) (oi := ⟨some 12, _, _, _, _, _⟩) (v := ?_) rfl (by kernel_rfl) (by kernel_rfl) (by kernel_rfl) (fun _ _ _ h => h) (Or.inl ⟨by rfl, ?_⟩) (by assumption) ?_
    rotate_left
    · intro w hSw; (try dsimp only at hSw); (try go_split_ands); go_simp; (try (with_reducible rfl))
    (try simp only [Act.put, List.setIfInBounds_toArray, List.set_cons_zero, List.set_cons_succ])
    refine wpAnyH_take (i := 3) (oi := ⟨some 13, _, _, _, _, _⟩) (v := ?_) rfl (by kernel_rfl) (by kernel_rfl) (by kernel_rfl) (fun _ _ _ h => h) (Or.inl ⟨by rfl, ?_⟩) (by assumption) ?_
    rotate_left
    · intro w hSw; (try dsimp only at hSw); (try go_split_ands); go_simp; (try (with_reducible rfl))
    (try simp only [Act.put, List.setIfInBounds_toArray, List.set_cons_zero, List.set_cons_succ])
    refine wpAnyH_take (i := 4) (oi := ⟨some 14, _, _, _, _, _⟩) (v := ?_) rfl (by kernel_rfl) (by kernel_rfl) (by kernel_rfl) (fun _ _ _ h => h) (Or.inl ⟨by rfl, ?_⟩) (by assumption) ?_
    rotate_left
    · intro w hSw; (try dsimp only at hSw); (try go_split_ands); go_simp; (try (with_reducible rfl))
    (try simp only [Act.put, List.setIfInBounds_toArray, List.set_cons_zero, List.set_cons_succ])
    refine wpAnyH_take (i := 5) (oi := ⟨some 15, _, _, _, _, _⟩) (v := ?_) rfl (by kernel_rfl) (by kernel_rfl) (by kernel_rfl) (fun _ _ _ h => h) (Or.inl ⟨by rfl, ?_⟩) (by assumption) ?_
    rotate_left
    · intro w hSw; (try dsimp only at hSw); (try go_split_ands); go_simp; (try (with_reducible rfl))
    (try simp only [Act.put, List.setIfInBounds_toArray, List.set_cons_zero, List.set_cons_succ])
    refine wpAnyH_take (i := 6) (oi := ⟨some 9, _, _, _, _, _⟩) (v := ?_) rfl (by kernel_rfl) (by kernel_rfl) (by kernel_rfl) (fun _ _ _ h => h) (Or.inl ⟨by rfl, ?_⟩) (by assumption) ?_
    rotate_left
    · intro w hSw; (try dsimp only at hSw); (try go_split_ands); go_simp; (try (with_reducible rfl))
    (try simp only [Act.put, List.setIfInBounds_toArray, List.set_cons_zero, List.set_cons_succ])
    refine wpAnyH_take (i := 7) (oi := ⟨some 16, _, _, _, _, _⟩) (v := ?_) rfl (by kernel_rfl) (by kernel_rfl) (by kernel_rfl) (fun _ _ _ h => h) (Or.inl ⟨by rfl, ?_⟩) (by assumption) ?_
    rotate_left
    · intro w hSw; (try dsimp only at hSw); (try go_split_ands); go_simp; (try (with_reducible rfl))
    (try simp only [Act.put, List.setIfInBounds_toArray, List.set_cons_zero, List.set_cons_succ])
    refine wpAnyH_take (i := 8) (oi := ⟨some 17, _, _, _, _, _⟩) (v := ?_) rfl (by kernel_rfl) (by kernel_rfl) (by kernel_rfl) (fun _ _ _ h => h) (Or.inl ⟨by rfl, ?_⟩) (by assumption) ?_
    rotate_left
    · intro w hSw; (try dsimp only at hSw); (try go_split_ands); go_simp; (try (with_reducible rfl))
    (try simp only [Act.put, List.setIfInBounds_toArray, List.set_cons_zero, List.set_cons_succ])
    refine wpAnyH_ready (rs := [9]) (by kernel_rfl) (by simp) ?_
    refine AllReadyH.cons (o := ⟨some 7, _, _, _, _, _⟩) rfl (fun K hK => ?_) AllReadyH.nil
    go_simp
    have hZ : Below W0.heap.size W0 (W0.alloc (.cells #[.int .u64 0, .int .u32 0, .slice none 0 0, .int .u64 0] tVer)).drew := below_drew (below_alloc (Below.refl _ _) _)
    have hZx : (W0.alloc (.cells #[.int .u64 0, .int .u32 0, .slice none 0 0, .int .u64 0] tVer)).drew.heap[W0.heap.size]? = some (.cells #[.int .u64 0, .int .u32 0, .slice none 0 0, .int .u64 0] tVer (0, 0)) := blk_drew (blk_new W0 _)
    refine hK.out _ _ (S0 _ hZ) (fun _ => ?_)
    clear hK K
    (try simp only [Act.put, List.setIfInBounds_toArray, List.set_cons_zero, List.set_cons_succ])
    have y0 := blk_frozen hZx 0
    have y1 := blk_frozen hZx 1
    have y2 := blk_frozen hZx 2
    have y3 := blk_frozen hZx 3
    have z0 := blk_cell hZx 0
    have z1 := blk_cell hZx 1
    have z2 := blk_cell hZx 2
    have z3 := blk_cell hZx 3
    refine wpAnyH_ready (rs := [10]) (by kernel_rfl) (by simp) ?_
    refine AllReadyH.cons (o := ⟨none, _, _, _, _, _⟩) rfl (fun K hK => ?_) AllReadyH.nil
    go_simp
    have hZ2 : Below W0.heap.size W0 (W0.alloc (.cells #[.int .u64 y.f0.f0, .int .u32 y.f0.f1, .slice Ay y.f1.length cy, .int .u64 y.f2] tVer)).drew := below_drew (below_alloc (Below.refl _ _) _)
    refine hK.out _ _ (S0 _ hZ2) (fun _ => ?_)
    clear hK K
    (try simp only [Act.put, List.setIfInBounds_toArray, List.set_cons_zero, List.set_cons_succ])
    refine wpAnyH_take (i := 11) (oi := ⟨some 8, _, _, _, _, _⟩) (v := ?_) rfl (by kernel_rfl) (by kernel_rfl) (by kernel_rfl) (fun _ _ _ h => h) (Or.inl ⟨by rfl, ?_⟩) (by assumption) ?_
    rotate_left
    · intro w hSw; (try dsimp only at hSw); (try go_split_ands); go_simp; (try (with_reducible rfl))
    (try simp only [Act.put, List.setIfInBounds_toArray, List.set_cons_zero, List.set_cons_succ])
    refine wpAnyH_done (by kernel_rfl) ?_ _
    refine NoPanic.normal ?_
    clear y0 y1 y2 y3 z0 z1 z2 z3 hZ hZx S0 hS hlk
    have hn1 : (W0.alloc (.cells #[.int .u64 y.f0.f0, .int .u32 y.f0.f1, .slice Ay y.f1.length cy, .int .u64 y.f2] tVer)).drew.heap[W0.heap.size]? = some (.cells #[.int .u64 y.f0.f0, .int .u32 y.f0.f1, .slice Ay y.f1.length cy, .int .u64 y.f2] tVer (0, 0)) := blk_drew (blk_new W0 _)
    have hB1 := btr' hB0 hZ2
    have hb1 := blk_below hbx hZ2
    have h1 := h0.below hZ2
    have hs1 : W0.heap.size < (W0.alloc (.cells #[.int .u64 y.f0.f0, .int .u32 y.f0.f1, .slice Ay y.f1.length cy, .int .u64 y.f2] tVer)).drew.heap.size := blk_lt hn1
    generalize (W0.alloc (.cells #[.int .u64 y.f0.f0, .int .u32 y.f0.f1, .slice Ay y.f1.length cy, .int .u64 y.f2] tVer)).drew = W1 at hn1 hB1 hb1 h1 hZ2 hs1 ⊢
    have c0 := blk_cell hb1 0
    have c1 := blk_cell hb1 1
    have z0 := blk_cell hn1 0
    have z1 := blk_cell hn1 1
    have z2 := blk_cell hn1 2
    have z3 := blk_cell hn1 3
    have y0 := blk_frozen hn1 0
    have y1 := blk_frozen hn1 1
    have y2 := blk_frozen hn1 2
    have y3 := blk_frozen hn1 3
    go_wp2_with fail
    go_ret
    exact ⟨rfl, hB1⟩
set_option maxHeartbeats 4000000 in
theorem erase_ok (a : Nm) (E : Int) (w : World) (p m n : Nat) (R : Nat → Prop) (F : Nm → Option Ver) (h : Wo w p m n R F) (ha : Nok a) (y : Ver) (hF : F a = some y) (h1 : a.f0 < E) (h2 : y.f2 = 0) (hn : n < maxLen) :
    Calls Try.prog 26 #[.pointer (some ⟨p, 0, none⟩), .agg #[.int .u64 a.f0, .int .u32 a.f1], .int .u64 E] w fun e w' => e = .returned (.int .i64 0) ∧ Wo w' p m (n + 1) R (updV F a (some ⟨y.f0, y.f1, E⟩)) ∧ w.grownBy w' (some m) := by
  have d1 : decide (E ≤ a.f0) = false := decide_eq_false (by omega)
  have d2 : (y.f2 != 0) = false := by rw [h2]; rfl
  clear h1 h2
  have hB0 := below_alloc (Below.refl w.heap.size w) (.cells #[.int .u64 a.f0, .int .u32 a.f1] 25)
  have hbx := blk_new w (.cells #[.int .u64 a.f0, .int .u32 a.f1] 25)
  go_enter Try.func26, Try.ntmps26
  go_wp2_with fail
  generalize w.alloc (.cells #[.int .u64 a.f0, .int .u32 a.f1] 25) = W0 at hB0 hbx ⊢
  have h0 := h.below hB0
  rcases h0.look a ha with ⟨hn, _⟩ | ⟨y', Ay, cy, hy, hyc, hyC, hlk⟩
  · rw [hF] at hn; cases hn
  · obtain rfl : y = y' := Option.some.inj (hF.symm.trans hy)
    clear hy
    have S0 : ∀ V : World, Below W0.heap.size W0 V → V.cell? ⟨p, 0, none⟩ = some (.map (some m)) ∧ V.cell? ⟨w.heap.size, 0, none⟩ = some (.int .u64 a.f0) ∧ V.cell? ⟨w.heap.size, 1, none⟩ = some (.int .u32 a.f1) ∧ (Instr.lookup tMap (.map (some m)) (.agg #[.int .u64 a.f0, .int .u32 a.f1]) true).run Try.prog V = .ok (.tuple #[.agg #[.int .u64 y.f0.f0, .int .u32 y.f0.f1, .slice Ay y.f1.length cy, .int .u64 y.f2], .bool true]) V ∧ Below W0.heap.size W0 V :=
      fun V hV => ⟨blk_cell (blk_below h0.box hV) 0, blk_cell (blk_below hbx hV) 0, blk_cell (blk_below hbx hV) 1, hlk V hV, hV⟩
    refine wp_region_noPanic ?_
    refine wp_region_held_drew (S := fun V : World => V.cell? ⟨p, 0, none⟩ = some (.map (some m)) ∧ V.cell? ⟨w.heap.size, 0, none⟩ = some (.int .u64 a.f0) ∧ V.cell? ⟨w.heap.size, 1, none⟩ = some (.int .u32 a.f1) ∧ (Instr.lookup tMap (.map (some m)) (.agg #[.int .u64 a.f0, .int .u32 a.f1]) true).run Try.prog V = .ok (.tuple #[.agg #[.int .u64 y.f0.f0, .int .u32 y.f0.f1, .slice Ay y.f1.length cy, .int .u64 y.f2], .bool true]) V ∧ Below W0.heap.size W0 V) (by kernel_rfl) (S0 _ (below_drew (Below.refl _ _))) (fun hS => ?_)
    refine wpAnyH_take (i := 0) (oi := ⟨some 10, _, _, _, _, _⟩) (v := ?_) rfl (by kernel_rfl) (by kernel_rfl) (by kernel_rfl) (fun _ _ _ h => h) (Or.inl ⟨by rfl, ?_⟩) (by assumption) ?_
    rotate_left
    · intro w hSw; (try dsimp only at hSw); (try go_split_ands); go_simp; (try (with_reducible rfl))
    (try simp only [Act.put, List.setIfInBounds_toArray, List.set_cons_zero, List.set_cons_succ])
    refine wpAnyH_take (i := 1) (oi := ⟨some 11, _, _, _, _, _⟩) (v := ?_) rfl (by kernel_rfl) (by kernel_rfl) (by kernel_rfl) (fun _ _ _ h => h) (Or.inl ⟨by rfl, ?_⟩) (by assumption) ?_
    rotate_left
    · intro w hSw; (try dsimp only at hSw); (try go_split_ands); go_simp; (try (with_reducible rfl))
    (try simp only [Act.put, List.setIfInBounds_toArray, List.set_cons_zero, List.set_cons_succ])
    refine wpAnyH_take (i := 2) (oi := ⟨some 12, _, _, _, _, _⟩) (v := ?_) rfl (by kernel_rfl) (by kernel_rfl) (by kernel_rfl) (fun _ _ _ h => h) (Or.inl ⟨by rfl, ?_⟩) (by assumption) ?_
    rotate_left
    · intro w hSw; (try dsimp only at hSw); (try go_split_ands); go_simp; (try (with_reducible rfl))
    (try simp only [Act.put, List.setIfInBounds_toArray, List.set_cons_zero, List.set_cons_succ])
    refine wpAnyH_take (i := 3) (oi := ⟨some 13, _, _, _, _, _⟩) (v := ?_) rfl (by kernel_rfl) (by kernel_rfl) (by kernel_rfl) (fun _ _ _ h => h) (Or.inl ⟨by rfl, ?_⟩) (by assumption) ?_
    rotate_left
    · intro w hSw; (try dsimp only at hSw); (try go_split_ands); go_simp; (try (with_reducible rfl))
    (try simp only [Act.put, List.setIfInBounds_toArray, List.set_cons_zero, List.set_cons_succ])
    refine wpAnyH_take (i := 4) (oi := ⟨some 14, _, _, _, _, _⟩) (v := ?_) rfl (by kernel_rfl) (by kernel_rfl) (by kernel_rfl) (fun _ _ _ h => h) (Or.inl ⟨by rfl, ?_⟩) (by assumption) ?_
    rotate_left
    · intro w hSw; (try dsimp only at hSw); (try go_split_ands); go_simp; (try (with_reducible rfl))
    (try simp only [Act.put, List.setIfInBounds_toArray, List.set_cons_zero, List.set_cons_succ])
    refine wpAnyH_take (i := 5) (oi := ⟨some 15, _, _, _, _, _⟩) (v := ?_) rfl (by kernel_rfl) (by kernel_rfl) (by kernel_rfl) (fun _ _ _ h => h) (Or.inl ⟨by rfl, ?_⟩) (by assumption) ?_
    rotate_left
    · intro w hSw; (try dsimp only at hSw); (try go_split_ands); go_simp; (try (with_reducible rfl))
    (try simp only [Act.put, List.setIfInBounds_toArray, List.set_cons_zero, List.set_cons_succ])
    refine wpAnyH_take (i := 6) (oi := ⟨some 9, _, _, _, _, _⟩) (v := ?_) rfl (by kernel_rfl) (by kernel_rfl) (by kernel_rfl) (fun _ _ _ h => h) (Or.inl ⟨by rfl, ?_⟩) (by assumption) ?_
    rotate_left
    · intro w hSw; (try dsimp only at hSw); (try go_split_ands); go_simp; (try (with_reducible rfl))
    (try simp only [Act.put, List.setIfInBounds_toArray, List.set_cons_zero, List.set_cons_succ])
    refine wpAnyH_take (i := 7) (oi := ⟨some 16, _, _, _, _, _⟩) (v := ?_) rfl (by kernel_rfl) (by kernel_rfl) (by kernel_rfl) (fun _ _ _ h => h) (Or.inl ⟨by rfl, ?_⟩) (by assumption) ?_
    rotate_left
    · intro w hSw; (try dsimp only at hSw); (try go_split_ands); go_simp; (try (with_reducible rfl))
    (try simp only [Act.put, List.setIfInBounds_toArray, List.set_cons_zero, List.set_cons_succ])
    refine wpAnyH_take (i := 8) (oi := ⟨some 17, _, _, _, _, _⟩) (v := ?_) rfl (by kernel_rfl) (by kernel_rfl) (by kernel_rfl) (fun _ _ _ h => h) (Or.inl ⟨by rfl, ?_⟩) (by assumption) ?_
    rotate_left
    · intro w hSw; (try dsimp only at hSw); (try go_split_ands); go_simp; (try (with_reducible rfl))
    (try simp only [Act.put, List.setIfInBounds_toArray, List.set_cons_zero, List.set_cons_succ])
    refine wpAnyH_ready (rs := [9]) (by kernel_rfl) (by simp) ?_
    refine AllReadyH.cons (o := ⟨some 7, _, _, _, _, _⟩) rfl (fun K hK => ?_) AllReadyH.nil
    go_simp
    have hZ : Below W0.heap.size W0 (W0.alloc (.cells #[.int .u64 0, .int .u32 0, .slice none 0 0, .int .u64 0] tVer)).drew := below_drew (below_alloc (Below.refl _ _) _)
    have hZx : (W0.alloc (.cells #[.int .u64 0, .int .u32 0, .slice none 0 0, .int .u64 0] tVer)).drew.heap[W0.heap.size]? = some (.cells #[.int .u64 0, .int .u32 0, .slice none 0 0, .int .u64 0] tVer (0, 0)) := blk_drew (blk_new W0 _)
    refine hK.out _ _ (S0 _ hZ) (fun _ => ?_)
    clear hK K
    (try simp only [Act.put, List.setIfInBounds_toArray, List.set_cons_zero, List.set_cons_succ])
    have y0 := blk_frozen hZx 0
    have y1 := blk_frozen hZx 1
    have y2 := blk_frozen hZx 2
    have y3 := blk_frozen hZx 3
    have z0 := blk_cell hZx 0
    have z1 := blk_cell hZx 1
    have z2 := blk_cell hZx 2
    have z3 := blk_cell hZx 3
    refine wpAnyH_ready (rs := [10]) (by kernel_rfl) (by simp) ?_
    refine AllReadyH.cons (o := ⟨none, _, _, _, _, _⟩) rfl (fun K hK => ?_) AllReadyH.nil
    go_simp
    have hZ2 : Below W0.heap.size W0 (W0.alloc (.cells #[.int .u64 y.f0.f0, .int .u32 y.f0.f1, .slice Ay y.f1.length cy, .int .u64 y.f2] tVer)).drew := below_drew (below_alloc (Below.refl _ _) _)
    refine hK.out _ _ (S0 _ hZ2) (fun _ => ?_)
    clear hK K
    (try simp only [Act.put, List.setIfInBounds_toArray, List.set_cons_zero, List.set_cons_succ])
    refine wpAnyH_take (i := 11) (oi := ⟨some 8, _, _, _, _, _⟩) (v := ?_) rfl (by kernel_rfl) (by kernel_rfl) (by kernel_rfl) (fun _ _ _ h => h) (Or.inl ⟨by rfl, ?_⟩) (by assumption) ?_
    rotate_left
    · intro w hSw; (try dsimp only at hSw); (try go_split_ands); go_simp; (try (with_reducible rfl))
    (try simp only [Act.put, List.setIfInBounds_toArray, List.set_cons_zero, List.set_cons_succ])
    refine wpAnyH_done (by kernel_rfl) ?_ _
    refine NoPanic.normal ?_
    clear y0 y1 y2 y3 z0 z1 z2 z3 hZ hZx S0 hS hlk
    have hn1 : (W0.alloc (.cells #[.int .u64 y.f0.f0, .int .u32 y.f0.f1, .slice Ay y.f1.length cy, .int .u64 y.f2] tVer)).drew.heap[W0.heap.size]? = some (.cells #[.int .u64 y.f0.f0, .int .u32 y.f0.f1, .slice Ay y.f1.length cy, .int .u64 y.f2] tVer (0, 0)) := blk_drew (blk_new W0 _)
    have hB1 := btr' hB0 hZ2
    have hb1 := blk_below hbx hZ2
    have h1 := h0.below hZ2
    have hs1 : W0.heap.size < (W0.alloc (.cells #[.int .u64 y.f0.f0, .int .u32 y.f0.f1, .slice Ay y.f1.length cy, .int .u64 y.f2] tVer)).drew.heap.size := blk_lt hn1
    generalize (W0.alloc (.cells #[.int .u64 y.f0.f0, .int .u32 y.f0.f1, .slice Ay y.f1.length cy, .int .u64 y.f2] tVer)).drew = W1 at hn1 hB1 hb1 h1 hZ2 hs1 ⊢
    have c0 := blk_cell hb1 0
    have c1 := blk_cell hb1 1
    have z0 := blk_cell hn1 0
    have z1 := blk_cell hn1 1
    have z2 := blk_cell hn1 2
    have z3 := blk_cell hn1 3
    have y0 := blk_frozen hn1 0
    have y1 := blk_frozen hn1 1
    have y2 := blk_frozen hn1 2
    have y3 := blk_frozen hn1 3
    go_wp2_with fail
    have hn2 := blk_set hn1 3 (.int .u64 E)
    have hZ3 : Below W0.heap.size W0 (W1.setCell ⟨W0.heap.size, 3, none⟩ (.int .u64 E)) := hZ2.setCell (p := ⟨W0.heap.size, 3, none⟩) (Nat.le_refl _) _
    have hb2 := blk_below hbx hZ3
    have h2w := h0.below hZ3
    have hB2 := btr' hB0 hZ3
    have hs2 : W0.heap.size < (W1.setCell ⟨W0.heap.size, 3, none⟩ (.int .u64 E)).heap.size := blk_lt hn2
    clear c0 c1 z0 z1 z2 z3 y0 y1 y2 y3
    generalize W1.setCell ⟨W0.heap.size, 3, none⟩ (.int .u64 E) = W2 at hn2 hZ3 hb2 h2w hB2 hs2 ⊢
    obtain ⟨f, hm1, hm2⟩ := h2w.map
    obtain ⟨w3, hrun, hm3, ht3⟩ := (hm1.below (below_drew (Below.refl _ _))).put_ (tm := tMap) (e := tVer) Try.underlying74 hn ha (.agg #[.int .u64 y.f0.f0, .int .u32 y.f0.f1, .slice Ay y.f1.length cy, .int .u64 E])
    have hg3 : W2.drew.grownBy w3 (some m) := ht3.grown
    have hpm : some p ≠ some m := by simpa using fun e => h.ne (e.symm)
    have hm0 := h.ml
    have hz0 := hB0.size
    have S0 : ∀ V : World, V.heap[p]? = W2.heap[p]? → V.heap[w.heap.size]? = W2.heap[w.heap.size]? → V.heap[W0.heap.size]? = W2.heap[W0.heap.size]? → V.cell? ⟨p, 0, none⟩ = some (.map (some m)) ∧ V.cell? ⟨w.heap.size, 0, none⟩ = some (.int .u64 a.f0) ∧ V.cell? ⟨w.heap.size, 1, none⟩ = some (.int .u32 a.f1) ∧ V.cell? ⟨W0.heap.size, 0, none⟩ = some (.int .u64 y.f0.f0) ∧ V.cell? ⟨W0.heap.size, 1, none⟩ = some (.int .u32 y.f0.f1) ∧ V.cell? ⟨W0.heap.size, 2, none⟩ = some (.slice Ay y.f1.length cy) ∧ V.cell? ⟨W0.heap.size, 3, none⟩ = some (.int .u64 E) :=
      fun V hp hb hc => ⟨blk_cell (hp.trans h2w.box) 0, blk_cell (hb.trans hb2) 0, blk_cell (hb.trans hb2) 1, blk_cell (hc.trans hn2) 0, blk_cell (hc.trans hn2) 1, blk_cell (hc.trans hn2) 2, blk_cell (hc.trans hn2) 3⟩
    refine wp_region_noPanic ?_
    refine wp_region_held_drew (S := fun V : World => V.cell? ⟨p, 0, none⟩ = some (.map (some m)) ∧ V.cell? ⟨w.heap.size, 0, none⟩ = some (.int .u64 a.f0) ∧ V.cell? ⟨w.heap.size, 1, none⟩ = some (.int .u32 a.f1) ∧ V.cell? ⟨W0.heap.size, 0, none⟩ = some (.int .u64 y.f0.f0) ∧ V.cell? ⟨W0.heap.size, 1, none⟩ = some (.int .u32 y.f0.f1) ∧ V.cell? ⟨W0.heap.size, 2, none⟩ = some (.slice Ay y.f1.length cy) ∧ V.cell? ⟨W0.heap.size, 3, none⟩ = some (.int .u64 E)) (by kernel_rfl) (S0 _ rfl rfl rfl) (fun hS => ?_)
    refine wpAnyH_take (i := 0) (oi := ⟨some 32, _, _, _, _, _⟩) (v := ?_) rfl (by kernel_rfl) (by kernel_rfl) (by kernel_rfl) (fun _ _ _ h => h) (Or.inl ⟨by rfl, ?_⟩) (by assumption) ?_
    rotate_left
    · intro w hSw; (try dsimp only at hSw); (try go_split_ands); go_simp; (try (with_reducible rfl))
    (try simp only [Act.put, List.setIfInBounds_toArray, List.set_cons_zero, List.set_cons_succ])
    refine wpAnyH_take (i := 1) (oi := ⟨some 33, _, _, _, _, _⟩) (v := ?_) rfl (by kernel_rfl) (by kernel_rfl) (by kernel_rfl) (fun _ _ _ h => h) (Or.inl ⟨by rfl, ?_⟩) (by assumption) ?_
    rotate_left
    · intro w hSw; (try dsimp only at hSw); (try go_split_ands); go_simp; (try (with_reducible rfl))
    (try simp only [Act.put, List.setIfInBounds_toArray, List.set_cons_zero, List.set_cons_succ])
    refine wpAnyH_take (i := 2) (oi := ⟨some 34, _, _, _, _, _⟩) (v := ?_) rfl (by kernel_rfl) (by kernel_rfl) (by kernel_rfl) (fun _ _ _ h => h) (Or.inl ⟨by rfl, ?_⟩) (by assumption) ?_
    rotate_left
    · intro w hSw; (try dsimp only at hSw); (try go_split_ands); go_simp; (try (with_reducible rfl))
    (try simp only [Act.put, List.setIfInBounds_toArray, List.set_cons_zero, List.set_cons_succ])
    refine wpAnyH_take (i := 3) (oi := ⟨some 35, _, _, _, _, _⟩) (v := ?_) rfl (by kernel_rfl) (by kernel_rfl) (by kernel_rfl) (fun _ _ _ h => h) (Or.inl ⟨by rfl, ?_⟩) (by assumption) ?_
    rotate_left
    · intro w hSw; (try dsimp only at hSw); (try go_split_ands); go_simp; (try (with_reducible rfl))
    (try simp only [Act.put, List.setIfInBounds_toArray, List.set_cons_zero, List.set_cons_succ])
    refine wpAnyH_take (i := 4) (oi := ⟨some 36, _, _, _, _, _⟩) (v := ?_) rfl (by kernel_rfl) (by kernel_rfl) (by kernel_rfl) (fun _ _ _ h => h) (Or.inl ⟨by rfl, ?_⟩) (by assumption) ?_
    rotate_left
    · intro w hSw; (try dsimp only at hSw); (try go_split_ands); go_simp; (try (with_reducible rfl))
    (try simp only [Act.put, List.setIfInBounds_toArray, List.set_cons_zero, List.set_cons_succ])
    refine wpAnyH_take (i := 5) (oi := ⟨some 37, _, _, _, _, _⟩) (v := ?_) rfl (by kernel_rfl) (by kernel_rfl) (by kernel_rfl) (fun _ _ _ h => h) (Or.inl ⟨by rfl, ?_⟩) (by assumption) ?_
    rotate_left
    · intro w hSw; (try dsimp only at hSw); (try go_split_ands); go_simp; (try (with_reducible rfl))
    (try simp only [Act.put, List.setIfInBounds_toArray, List.set_cons_zero, List.set_cons_succ])
    refine wpAnyH_ready (rs := [6]) (by kernel_rfl) (by simp) ?_
    refine AllReadyH.cons (o := ⟨none, _, _, _, _, _⟩) rfl (fun K hK => ?_) AllReadyH.nil
    go_simp
    rw [show Sem.run Try.prog (Instr.mapUpdate tMap (Value.map (some m)) (Value.agg #[Value.int IntKind.u64 a.f0, Value.int IntKind.u32 a.f1]) (Value.agg #[.int .u64 y.f0.f0, .int .u32 y.f0.f1, .slice Ay y.f1.length cy, .int .u64 E])) W2.drew = Result.ok () w3 from hrun]
    refine hK.out _ w3 (S0 _ (hg3.block p h2w.pl hpm) (hg3.block _ (blk_lt hb2) (by simp only [ne_eq, Option.some.injEq]; omega)) (hg3.block _ (blk_lt hn2) (by simp only [ne_eq, Option.some.injEq]; omega))) (fun _ => ?_)
    clear hK K
    (try simp only [Act.put])
    refine wpAnyH_done (by kernel_rfl) ?_ _
    refine NoPanic.normal ?_
    clear S0 hS hrun
    go_wp2_with fail
    go_ret
    have hg2 : W2.grownBy w3 (some m) := ⟨hg3.os, hg3.tape, hg3.output, hg3.size, hg3.block⟩
    exact ⟨rfl, wo_upd (x := ⟨y.f0, y.f1, E⟩) h2w hm2 (h.own a y hF) hm3 hg2 hyc (fun V hV => hyC V (fun k hk => (hV k hk).trans (hZ3.block k (h0.rl k hk)))) (h.row a y hF), grown_of hB2 hg2⟩
set_option maxHeartbeats 4000000 in
theorem get_none (a : Nm) (w : World) (p m n : Nat) (R : Nat → Prop) (F : Nm → Option Ver) (h : Wo w p m n R F) (ha : Nok a) (hF : F a = none) :
    Calls Try.prog 34 #[.pointer (some ⟨p, 0, none⟩), .agg #[.int .u64 a.f0, .int .u32 a.f1]] w fun e w' => ∃ v, e = .returned (.tuple #[.agg #[.int .u64 0, .int .u32 0, v, .int .u64 0], .bool false]) ∧ kS.R tS w' w.heap.size (fun _ => True) v [] ∧ Below w.heap.size w w' := by
  have hB0 : Below w.heap.size w ((w.alloc (.cells #[.int .u64 a.f0, .int .u32 a.f1] 25)).alloc (.cells #[.int .u64 0, .int .u32 0, .slice none 0 0, .int .u64 0] tVer)) := below_alloc (below_alloc (Below.refl _ _) _) _
  have hbx : ((w.alloc (.cells #[.int .u64 a.f0, .int .u32 a.f1] 25)).alloc (.cells #[.int .u64 0, .int .u32 0, .slice none 0 0, .int .u64 0] tVer)).heap[w.heap.size]? = some (.cells #[.int .u64 a.f0, .int .u32 a.f1] 25 (0, 0)) := blk_alloc (blk_new w _) _
  have hby := blk_new (w.alloc (.cells #[.int .u64 a.f0, .int .u32 a.f1] 25)) (.cells #[.int .u64 0, .int .u32 0, .slice none 0 0, .int .u64 0] tVer)
  rw [World.size_alloc] at hby
  go_enter Try.func34, Try.ntmps34
  go_wp2_with fail
  generalize (w.alloc (.cells #[.int .u64 a.f0, .int .u32 a.f1] 25)).alloc (.cells #[.int .u64 0, .int .u32 0, .slice none 0 0, .int .u64 0] tVer) = W0 at hB0 hbx hby ⊢
  have h0 := h.below hB0
  rcases h0.look a ha with ⟨_, hlk⟩ | ⟨y, Ay, cy, hy, _⟩
  · clear hF
    have S0 : ∀ V : World, Below W0.heap.size W0 V → V.cell? ⟨p, 0, none⟩ = some (.map (some m)) ∧ V.cell? ⟨w.heap.size, 0, none⟩ = some (.int .u64 a.f0) ∧ V.cell? ⟨w.heap.size, 1, none⟩ = some (.int .u32 a.f1) ∧ (Instr.lookup tMap (.map (some m)) (.agg #[.int .u64 a.f0, .int .u32 a.f1]) true).run Try.prog V = .ok (.tuple #[.agg #[.int .u64 0, .int .u32 0, .slice none 0 0, .int .u64 0], .bool false]) V ∧ Below W0.heap.size W0 V :=
      fun V hV => ⟨blk_cell (blk_below h0.box hV) 0, blk_cell (blk_below hbx hV) 0, blk_cell (blk_below hbx hV) 1, hlk V hV, hV⟩
    refine wp_region_noPanic ?_
    refine wp_region_held_drew (S := fun V : World => V.cell? ⟨p, 0, none⟩ = some (.map (some m)) ∧ V.cell? ⟨w.heap.size, 0, none⟩ = some (.int .u64 a.f0) ∧ V.cell? ⟨w.heap.size, 1, none⟩ = some (.int .u32 a.f1) ∧ (Instr.lookup tMap (.map (some m)) (.agg #[.int .u64 a.f0, .int .u32 a.f1]) true).run Try.prog V = .ok (.tuple #[.agg #[.int .u64 0, .int .u32 0, .slice none 0 0, .int .u64 0], .bool false]) V ∧ Below W0.heap.size W0 V) (by kernel_rfl) (S0 _ (below_drew (Below.refl _ _))) (fun hS => ?_)
    refine wpAnyH_take (i := 0) (oi := ⟨some 9, _, _, _, _, _⟩) (v := ?_) rfl (by kernel_rfl) (by kernel_rfl) (by kernel_rfl) (fun _ _ _ h => h) (Or.inl ⟨by rfl, ?_⟩) (by assumption) ?_
    rotate_left
    · intro w hSw; (try dsimp only at hSw); (try go_split_ands); go_simp; (try (with_reducible rfl))
    (try simp only [Act.put, List.setIfInBounds_toArray, List.set_cons_zero, List.set_cons_succ])
    refine wpAnyH_take (i := 1) (oi := ⟨some 10, _, _, _, _, _⟩) (v := ?_) rfl (by kernel_rfl) (by kernel_rfl) (by kernel_rfl) (fun _ _ _ h => h) (Or.inl ⟨by rfl, ?_⟩) (by assumption) ?_
    rotate_left
    · intro w hSw; (try dsimp only at hSw); (try go_split_ands); go_simp; (try (with_reducible rfl))
    (try simp only [Act.put, List.setIfInBounds_toArray, List.set_cons_zero, List.set_cons_succ])
    refine wpAnyH_take (i := 2) (oi := ⟨some 11, _, _, _, _, _⟩) (v := ?_) rfl (by kernel_rfl) (by kernel_rfl) (by kernel_rfl) (fun _ _ _ h => h) (Or.inl ⟨by rfl, ?_⟩) (by assumption) ?_
    rotate_left
    · intro w hSw; (try dsimp only at hSw); (try go_split_ands); go_simp; (try (with_reducible rfl))
    (try simp only [Act.put, List.setIfInBounds_toArray, List.set_cons_zero, List.set_cons_succ])
    refine wpAnyH_take (i := 3) (oi := ⟨some 12, _, _, _, _, _⟩) (v := ?_) rfl (by kernel_rfl) (by kernel_rfl) (by kernel_rfl) (fun _ _ _ h => h) (Or.inl ⟨by rfl, ?_⟩) (by assumption) ?_
    rotate_left
    · intro w hSw; (try dsimp only at hSw); (try go_split_ands); go_simp; (try (with_reducible rfl))
    (try simp only [Act.put, List.setIfInBounds_toArray, List.set_cons_zero, List.set_cons_succ])
    refine wpAnyH_take (i := 4) (oi := ⟨some 13, _, _, _, _, _⟩) (v := ?_) rfl (by kernel_rfl) (by kernel_rfl) (by kernel_rfl) (fun _ _ _ h => h) (Or.inl ⟨by rfl, ?_⟩) (by assumption) ?_
    rotate_left
    · intro w hSw; (try dsimp only at hSw); (try go_split_ands); go_simp; (try (with_reducible rfl))
    (try simp only [Act.put, List.setIfInBounds_toArray, List.set_cons_zero, List.set_cons_succ])
    refine wpAnyH_take (i := 5) (oi := ⟨some 14, _, _, _, _, _⟩) (v := ?_) rfl (by kernel_rfl) (by kernel_rfl) (by kernel_rfl) (fun _ _ _ h => h) (Or.inl ⟨by rfl, ?_⟩) (by assumption) ?_
    rotate_left
    · intro w hSw; (try dsimp only at hSw); (try go_split_ands); go_simp; (try (with_reducible rfl))
    (try simp only [Act.put, List.setIfInBounds_toArray, List.set_cons_zero, List.set_cons_succ])
    refine wpAnyH_take (i := 6) (oi := ⟨some 8, _, _, _, _, _⟩) (v := ?_) rfl (by kernel_rfl) (by kernel_rfl) (by kernel_rfl) (fun _ _ _ h => h) (Or.inl ⟨by rfl, ?_⟩) (by assumption) ?_
    rotate_left
    · intro w hSw; (try dsimp only at hSw); (try go_split_ands); go_simp; (try (with_reducible rfl))
    (try simp only [Act.put, List.setIfInBounds_toArray, List.set_cons_zero, List.set_cons_succ])
    refine wpAnyH_take (i := 7) (oi := ⟨some 15, _, _, _, _, _⟩) (v := ?_) rfl (by kernel_rfl) (by kernel_rfl) (by kernel_rfl) (fun _ _ _ h => h) (Or.inl ⟨by rfl, ?_⟩) (by assumption) ?_
    rotate_left
    · intro w hSw; (try dsimp only at hSw); (try go_split_ands); go_simp; (try (with_reducible rfl))
    (try simp only [Act.put, List.setIfInBounds_toArray, List.set_cons_zero, List.set_cons_succ])
    refine wpAnyH_take (i := 8) (oi := ⟨some 16, _, _, _, _, _⟩) (v := ?_) rfl (by kernel_rfl) (by kernel_rfl) (by kernel_rfl) (fun _ _ _ h => h) (Or.inl ⟨by rfl, ?_⟩) (by assumption) ?_
    rotate_left
    · intro w hSw; (try dsimp only at hSw); (try go_split_ands); go_simp; (try (with_reducible rfl))
    (try simp only [Act.put, List.setIfInBounds_toArray, List.set_cons_zero, List.set_cons_succ])
    refine wpAnyH_ready (rs := [9]) (by kernel_rfl) (by simp) ?_
    refine AllReadyH.cons (o := ⟨some 6, _, _, _, _, _⟩) rfl (fun K hK => ?_) AllReadyH.nil
    go_simp
    have hZ : Below W0.heap.size W0 (W0.alloc (.cells #[.int .u64 0, .int .u32 0, .slice none 0 0, .int .u64 0] tVer)).drew := below_drew (below_alloc (Below.refl _ _) _)
    have hZx : (W0.alloc (.cells #[.int .u64 0, .int .u32 0, .slice none 0 0, .int .u64 0] tVer)).drew.heap[W0.heap.size]? = some (.cells #[.int .u64 0, .int .u32 0, .slice none 0 0, .int .u64 0] tVer (0, 0)) := blk_drew (blk_new W0 _)
    refine hK.out _ _ (S0 _ hZ) (fun _ => ?_)
    clear hK K
    (try simp only [Act.put, List.setIfInBounds_toArray, List.set_cons_zero, List.set_cons_succ])
    have y0 := blk_frozen hZx 0
    have y1 := blk_frozen hZx 1
    have y2 := blk_frozen hZx 2
    have y3 := blk_frozen hZx 3
    have z0 := blk_cell hZx 0
    have z1 := blk_cell hZx 1
    have z2 := blk_cell hZx 2
    have z3 := blk_cell hZx 3
    refine wpAnyH_ready (rs := [10]) (by kernel_rfl) (by simp) ?_
    refine AllReadyH.cons (o := ⟨none, _, _, _, _, _⟩) rfl (fun K hK => ?_) AllReadyH.nil
    go_simp
    have hZ2 : Below W0.heap.size W0 (W0.alloc (.cells #[.int .u64 0, .int .u32 0, .slice none 0 0, .int .u64 0] tVer)).drew := below_drew (below_alloc (Below.refl _ _) _)
    refine hK.out _ _ (S0 _ hZ2) (fun _ => ?_)
    clear hK K
    (try simp only [Act.put, List.setIfInBounds_toArray, List.set_cons_zero, List.set_cons_succ])
    refine wpAnyH_take (i := 11) (oi := ⟨some 7, _, _, _, _, _⟩) (v := ?_) rfl (by kernel_rfl) (by kernel_rfl) (by kernel_rfl) (fun _ _ _ h => h) (Or.inl ⟨by rfl, ?_⟩) (by assumption) ?_
    rotate_left
    · intro w hSw; (try dsimp only at hSw); (try go_split_ands); go_simp; (try (with_reducible rfl))
    (try simp only [Act.put, List.setIfInBounds_toArray, List.set_cons_zero, List.set_cons_succ])
    refine wpAnyH_done (by kernel_rfl) ?_ _
    refine NoPanic.normal ?_
    clear y0 y1 y2 y3 z0 z1 z2 z3 hZ hZx S0 hS hlk
    have hn1 : (W0.alloc (.cells #[.int .u64 0, .int .u32 0, .slice none 0 0, .int .u64 0] tVer)).drew.heap[W0.heap.size]? = some (.cells #[.int .u64 0, .int .u32 0, .slice none 0 0, .int .u64 0] tVer (0, 0)) := blk_drew (blk_new W0 _)
    have hB1 := btr' hB0 hZ2
    have hb1 := blk_below hbx hZ2
    have h1 := h0.below hZ2
    have hs1 : W0.heap.size < (W0.alloc (.cells #[.int .u64 0, .int .u32 0, .slice none 0 0, .int .u64 0] tVer)).drew.heap.size := blk_lt hn1
    generalize (W0.alloc (.cells #[.int .u64 0, .int .u32 0, .slice none 0 0, .int .u64 0] tVer)).drew = W1 at hn1 hB1 hb1 h1 hZ2 hs1 ⊢
    have c0 := blk_cell hb1 0
    have c1 := blk_cell hb1 1
    have z0 := blk_cell hn1 0
    have z1 := blk_cell hn1 1
    have z2 := blk_cell hn1 2
    have z3 := blk_cell hn1 3
    have y0 := blk_frozen hn1 0
    have y1 := blk_frozen hn1 1
    have y2 := blk_frozen hn1 2
    have y3 := blk_frozen hn1 3
    have hy1 := blk_below hby hZ2
    have hs0 : w.heap.size + 1 < W0.heap.size := blk_lt hby
    clear c0 c1 y0 y1 y2 y3
    go_wp2_with fail
    refine (own_any ⟨⟨0, 0⟩, [], 0⟩ none 0 W1 (Kd.C_nil kS W1) (Nat.le_refl _) (by decide)).mono ?_
    rintro e w2 ⟨v, rfl, hR, hb2⟩
    obtain ⟨A2, c2, rfl⟩ := Kd.R_slice hR
    have hy2 := blk_below hy1 hb2
    have g0 := blk_frozen hy2 0
    have g1 := blk_frozen hy2 1
    have g2 := blk_frozen hy2 2
    have g3 := blk_frozen hy2 3
    have d0 := blk_cell hy2 0
    have d1 := blk_cell hy2 1
    have d2 := blk_cell hy2 2
    have d3 := blk_cell hy2 3
    go_wp2_with fail
    obtain ⟨e2, e3, e4⟩ := four_cells hy2 (.int .u64 0) (.int .u32 0) (.slice A2 0 c2) (.int .u64 0)
    have hz1 := hB1.size
    have hz2 := hb2.size
    have hBF : Below w.heap.size w _ := (btr' hB1 hb2).trans (e4 w.heap.size (by omega))
    have hRF := Kd.R_step (Kd.R_bound hR) (w1 := ((((w2.setCell ⟨w.heap.size + 1, 0, none⟩ (.int .u64 0)).setCell ⟨w.heap.size + 1, 1, none⟩ (.int .u32 0)).setCell ⟨w.heap.size + 1, 2, none⟩ (.slice A2 0 c2)).setCell ⟨w.heap.size + 1, 3, none⟩ (.int .u64 0))) (fun k hk _ => e3 k (by have := hk.2.1; omega))
    clear e3 e4 d0 d1 d2 d3 g0 g1 g2 g3
    generalize (((w2.setCell ⟨w.heap.size + 1, 0, none⟩ (.int .u64 0)).setCell ⟨w.heap.size + 1, 1, none⟩ (.int .u32 0)).setCell ⟨w.heap.size + 1, 2, none⟩ (.slice A2 0 c2)).setCell ⟨w.heap.size + 1, 3, none⟩ (.int .u64 0) = WF at e2 hBF hRF ⊢
    have r0 := blk_cell e2 0
    have r1 := blk_cell e2 1
    have r2 := blk_cell e2 2
    have r3 := blk_cell e2 3
    refine bodyPost_ret (v := .tuple #[.agg #[.int .u64 0, .int .u32 0, .slice A2 0 c2, .int .u64 0], .bool false]) (by simp [results, Try.results34, go_sem, r0, r1, r2, r3]; try rfl) rfl ?_
    exact ⟨_, rfl, Kd.R_lower (Kd.R_mono hRF (fun _ _ => trivial)) (by omega), hBF⟩
  · rw [hF] at hy; cases hy
set_option maxHeartbeats 4000000 in
theorem get_some (a : Nm) (w : World) (p m n : Nat) (R : Nat → Prop) (F : Nm → Option Ver) (h : Wo w p m n R F) (ha : Nok a) (y : Ver) (hF : F a = some y) :
    Calls Try.prog 34 #[.pointer (some ⟨p, 0, none⟩), .agg #[.int .u64 a.f0, .int .u32 a.f1]] w fun e w' => ∃ v, e = .returned (.tuple #[.agg #[.int .u64 y.f0.f0, .int .u32 y.f0.f1, v, .int .u64 y.f2], .bool true]) ∧ kS.R tS w' w.heap.size (fun _ => True) v y.f1 ∧ Below w.heap.size w w' := by
  have hB0 : Below w.heap.size w ((w.alloc (.cells #[.int .u64 a.f0, .int .u32 a.f1] 25)).alloc (.cells #[.int .u64 0, .int .u32 0, .slice none 0 0, .int .u64 0] tVer)) := below_alloc (below_alloc (Below.refl _ _) _) _
  have hbx : ((w.alloc (.cells #[.int .u64 a.f0, .int .u32 a.f1] 25)).alloc (.cells #[.int .u64 0, .int .u32 0, .slice none 0 0, .int .u64 0] tVer)).heap[w.heap.size]? = some (.cells #[.int .u64 a.f0, .int .u32 a.f1] 25 (0, 0)) := blk_alloc (blk_new w _) _
  have hby := blk_new (w.alloc (.cells #[.int .u64 a.f0, .int .u32 a.f1] 25)) (.cells #[.int .u64 0, .int .u32 0, .slice none 0 0, .int .u64 0] tVer)
  rw [World.size_alloc] at hby
  go_enter Try.func34, Try.ntmps34
  go_wp2_with fail
  generalize (w.alloc (.cells #[.int .u64 a.f0, .int .u32 a.f1] 25)).alloc (.cells #[.int .u64 0, .int .u32 0, .slice none 0 0, .int .u64 0] tVer) = W0 at hB0 hbx hby ⊢
  have h0 := h.below hB0
  rcases h0.look a ha with ⟨hn, _⟩ | ⟨y', Ay, cy, hy, hyc, hyC, hlk⟩
  · rw [hF] at hn; cases hn
  · obtain rfl : y = y' := Option.some.inj (hF.symm.trans hy)
    clear hy
    have S0 : ∀ V : World, Below W0.heap.size W0 V → V.cell? ⟨p, 0, none⟩ = some (.map (some m)) ∧ V.cell? ⟨w.heap.size, 0, none⟩ = some (.int .u64 a.f0) ∧ V.cell? ⟨w.heap.size, 1, none⟩ = some (.int .u32 a.f1) ∧ (Instr.lookup tMap (.map (some m)) (.agg #[.int .u64 a.f0, .int .u32 a.f1]) true).run Try.prog V = .ok (.tuple #[.agg #[.int .u64 y.f0.f0, .int .u32 y.f0.f1, .slice Ay y.f1.length cy, .int .u64 y.f2], .bool true]) V ∧ Below W0.heap.size W0 V :=
      fun V hV => ⟨blk_cell (blk_below h0.box hV) 0, blk_cell (blk_below hbx hV) 0, blk_cell (blk_below hbx hV) 1, hlk V hV, hV⟩
    refine wp_region_noPanic ?_
    refine wp_region_held_drew (S := fun V : World => V.cell? ⟨p, 0, none⟩ = some (.map (some m)) ∧ V.cell? ⟨w.heap.size, 0, none⟩ = some (.int .u64 a.f0) ∧ V.cell? ⟨w.heap.size, 1, none⟩ = some (.int .u32 a.f1) ∧ (Instr.lookup tMap (.map (some m)) (.agg #[.int .u64 a.f0, .int .u32 a.f1]) true).run Try.prog V = .ok (.tuple #[.agg #[.int .u64 y.f0.f0, .int .u32 y.f0.f1, .slice Ay y.f1.length cy, .int .u64 y.f2], .bool true]) V ∧ Below W0.heap.size W0 V) (by kernel_rfl) (S0 _ (below_drew (Below.refl _ _))) (fun hS => ?_)
    refine wpAnyH_take (i := 0) (oi := ⟨some 9, _, _, _, _, _⟩) (v := ?_) rfl (by kernel_rfl) (by kernel_rfl) (by kernel_rfl) (fun _ _ _ h => h) (Or.inl ⟨by rfl, ?_⟩) (by assumption) ?_
    rotate_left
    · intro w hSw; (try dsimp only at hSw); (try go_split_ands); go_simp; (try (with_reducible rfl))
    (try simp only [Act.put, List.setIfInBounds_toArray, List.set_cons_zero, List.set_cons_succ])
    refine wpAnyH_take (i := 1) (oi := ⟨some 10, _, _, _, _, _⟩) (v := ?_) rfl (by kernel_rfl) (by kernel_rfl) (by kernel_rfl) (fun _ _ _ h => h) (Or.inl ⟨by rfl, ?_⟩) (by assumption) ?_
    rotate_left
    · intro w hSw; (try dsimp only at hSw); (try go_split_ands); go_simp; (try (with_reducible rfl))
    (try simp only [Act.put, List.setIfInBounds_toArray, List.set_cons_zero, List.set_cons_succ])
    refine wpAnyH_take (i := 2) (oi := ⟨some 11, _, _, _, _, _⟩) (v := ?_) rfl (by kernel_rfl) (by kernel_rfl) (by kernel_rfl) (fun _ _ _ h => h) (Or.inl ⟨by rfl, ?_⟩) (by assumption) ?_
    rotate_left
    · intro w hSw; (try dsimp only at hSw); (try go_split_ands); go_simp; (try (with_reducible rfl))
    (try simp only [Act.put, List.setIfInBounds_toArray, List.set_cons_zero, List.set_cons_succ])
    refine wpAnyH_take (i := 3) (oi := ⟨some 12, _, _, _, _, _⟩) (v := ?_) rfl (by kernel_rfl) (by kernel_rfl) (by kernel_rfl) (fun _ _ _ h => h) (Or.inl ⟨by rfl, ?_⟩) (by assumption) ?_
    rotate_left
    · intro w hSw; (try dsimp only at hSw); (try go_split_ands); go_simp; (try (with_reducible rfl))
    (try simp only [Act.put, List.setIfInBounds_toArray, List.set_cons_zero, List.set_cons_succ])
    refine wpAnyH_take (i := 4) (oi := ⟨some 13, _, _, _, _, _⟩) (v := ?_) rfl (by kernel_rfl) (by kernel_rfl) (by kernel_rfl) (fun _ _ _ h => h) (Or.inl ⟨by rfl, ?_⟩) (by assumption) ?_
    rotate_left
    · intro w hSw; (try dsimp only at hSw); (try go_split_ands); go_simp; (try (with_reducible rfl))
    (try simp only [Act.put, List.setIfInBounds_toArray, List.set_cons_zero, List.set_cons_succ])
    refine wpAnyH_take (i := 5) (oi := ⟨some 14, _, _, _, _, _⟩) (v := ?_) rfl (by kernel_rfl) (by kernel_rfl) (by kernel_rfl) (fun _ _ _ h => h) (Or.inl ⟨by rfl, ?_⟩) (by assumption) ?_
    rotate_left
    · intro w hSw; (try dsimp only at hSw); (try go_split_ands); go_simp; (try (with_reducible rfl))
    (try simp only [Act.put, List.setIfInBounds_toArray, List.set_cons_zero, List.set_cons_succ])
    refine wpAnyH_take (i := 6) (oi := ⟨some 8, _, _, _, _, _⟩) (v := ?_) rfl (by kernel_rfl) (by kernel_rfl) (by kernel_rfl) (fun _ _ _ h => h) (Or.inl ⟨by rfl, ?_⟩) (by assumption) ?_
    rotate_left
    · intro w hSw; (try dsimp only at hSw); (try go_split_ands); go_simp; (try (with_reducible rfl))
    (try simp only [Act.put, List.setIfInBounds_toArray, List.set_cons_zero, List.set_cons_succ])
    refine wpAnyH_take (i := 7) (oi := ⟨some 15, _, _, _, _, _⟩) (v := ?_) rfl (by kernel_rfl) (by kernel_rfl) (by kernel_rfl) (fun _ _ _ h => h) (Or.inl ⟨by rfl, ?_⟩) (by assumption) ?_
    rotate_left
    · intro w hSw; (try dsimp only at hSw); (try go_split_ands); go_simp; (try (with_reducible rfl))
    (try simp only [Act.put, List.setIfInBounds_toArray, List.set_cons_zero, List.set_cons_succ])
    refine wpAnyH_take (i := 8) (oi := ⟨some 16, _, _, _, _, _⟩) (v := ?_) rfl (by kernel_rfl) (by kernel_rfl) (by kernel_rfl) (fun _ _ _ h => h) (Or.inl ⟨by rfl, ?_⟩) (by assumption) ?_
    rotate_left
    · intro w hSw; (try dsimp only at hSw); (try go_split_ands); go_simp; (try (with_reducible rfl))
    (try simp only [Act.put, List.setIfInBounds_toArray, List.set_cons_zero, List.set_cons_succ])
    refine wpAnyH_ready (rs := [9]) (by kernel_rfl) (by simp) ?_
    refine AllReadyH.cons (o := ⟨some 6, _, _, _, _, _⟩) rfl (fun K hK => ?_) AllReadyH.nil
    go_simp
    have hZ : Below W0.heap.size W0 (W0.alloc (.cells #[.int .u64 0, .int .u32 0, .slice none 0 0, .int .u64 0] tVer)).drew := below_drew (below_alloc (Below.refl _ _) _)
    have hZx : (W0.alloc (.cells #[.int .u64 0, .int .u32 0, .slice none 0 0, .int .u64 0] tVer)).drew.heap[W0.heap.size]? = some (.cells #[.int .u64 0, .int .u32 0, .slice none 0 0, .int .u64 0] tVer (0, 0)) := blk_drew (blk_new W0 _)
    refine hK.out _ _ (S0 _ hZ) (fun _ => ?_)
    clear hK K
    (try simp only [Act.put, List.setIfInBounds_toArray, List.set_cons_zero, List.set_cons_succ])
    have y0 := blk_frozen hZx 0
    have y1 := blk_frozen hZx 1
    have y2 := blk_frozen hZx 2
    have y3 := blk_frozen hZx 3
    have z0 := blk_cell hZx 0
    have z1 := blk_cell hZx 1
    have z2 := blk_cell hZx 2
    have z3 := blk_cell hZx 3
    refine wpAnyH_ready (rs := [10]) (by kernel_rfl) (by simp) ?_
    refine AllReadyH.cons (o := ⟨none, _, _, _, _, _⟩) rfl (fun K hK => ?_) AllReadyH.nil
    go_simp
    have hZ2 : Below W0.heap.size W0 (W0.alloc (.cells #[.int .u64 y.f0.f0, .int .u32 y.f0.f1, .slice Ay y.f1.length cy, .int .u64 y.f2] tVer)).drew := below_drew (below_alloc (Below.refl _ _) _)
    refine hK.out _ _ (S0 _ hZ2) (fun _ => ?_)
    clear hK K
    (try simp only [Act.put, List.setIfInBounds_toArray, List.set_cons_zero, List.set_cons_succ])
    refine wpAnyH_take (i := 11) (oi := ⟨some 7, _, _, _, _, _⟩) (v := ?_) rfl (by kernel_rfl) (by kernel_rfl) (by kernel_rfl) (fun _ _ _ h => h) (Or.inl ⟨by rfl, ?_⟩) (by assumption) ?_
    rotate_left
    · intro w hSw; (try dsimp only at hSw); (try go_split_ands); go_simp; (try (with_reducible rfl))
    (try simp only [Act.put, List.setIfInBounds_toArray, List.set_cons_zero, List.set_cons_succ])
    refine wpAnyH_done (by kernel_rfl) ?_ _
    refine NoPanic.normal ?_
    clear y0 y1 y2 y3 z0 z1 z2 z3 hZ hZx S0 hS hlk
    have hn1 : (W0.alloc (.cells #[.int .u64 y.f0.f0, .int .u32 y.f0.f1, .slice Ay y.f1.length cy, .int .u64 y.f2] tVer)).drew.heap[W0.heap.size]? = some (.cells #[.int .u64 y.f0.f0, .int .u32 y.f0.f1, .slice Ay y.f1.length cy, .int .u64 y.f2] tVer (0, 0)) := blk_drew (blk_new W0 _)
    have hB1 := btr' hB0 hZ2
    have hb1 := blk_below hbx hZ2
    have h1 := h0.below hZ2
    have hs1 : W0.heap.size < (W0.alloc (.cells #[.int .u64 y.f0.f0, .int .u32 y.f0.f1, .slice Ay y.f1.length cy, .int .u64 y.f2] tVer)).drew.heap.size := blk_lt hn1
    generalize (W0.alloc (.cells #[.int .u64 y.f0.f0, .int .u32 y.f0.f1, .slice Ay y.f1.length cy, .int .u64 y.f2] tVer)).drew = W1 at hn1 hB1 hb1 h1 hZ2 hs1 ⊢
    have c0 := blk_cell hb1 0
    have c1 := blk_cell hb1 1
    have z0 := blk_cell hn1 0
    have z1 := blk_cell hn1 1
    have z2 := blk_cell hn1 2
    have z3 := blk_cell hn1 3
    have y0 := blk_frozen hn1 0
    have y1 := blk_frozen hn1 1
    have y2 := blk_frozen hn1 2
    have y3 := blk_frozen hn1 3
    have hy1 := blk_below hby hZ2
    have hs0 : w.heap.size + 1 < W0.heap.size := blk_lt hby
    clear c0 c1 y0 y1 y2 y3
    go_wp2_with fail
    refine (own_any y Ay cy W1 (hyC W1 (fun k hk => hZ2.block k (h0.rl k hk))) hyc (by have := h.row a y hF; omega)).mono ?_
    rintro e w2 ⟨v, rfl, hR, hb2⟩
    obtain ⟨A2, c2, rfl⟩ := Kd.R_slice hR
    have hy2 := blk_below hy1 hb2
    have g0 := blk_frozen hy2 0
    have g1 := blk_frozen hy2 1
    have g2 := blk_frozen hy2 2
    have g3 := blk_frozen hy2 3
    have d0 := blk_cell hy2 0
    have d1 := blk_cell hy2 1
    have d2 := blk_cell hy2 2
    have d3 := blk_cell hy2 3
    go_wp2_with fail
    obtain ⟨e2, e3, e4⟩ := four_cells hy2 (.int .u64 y.f0.f0) (.int .u32 y.f0.f1) (.slice A2 y.f1.length c2) (.int .u64 y.f2)
    have hz1 := hB1.size
    have hz2 := hb2.size
    have hBF : Below w.heap.size w _ := (btr' hB1 hb2).trans (e4 w.heap.size (by omega))
    have hRF := Kd.R_step (Kd.R_bound hR) (w1 := ((((w2.setCell ⟨w.heap.size + 1, 0, none⟩ (.int .u64 y.f0.f0)).setCell ⟨w.heap.size + 1, 1, none⟩ (.int .u32 y.f0.f1)).setCell ⟨w.heap.size + 1, 2, none⟩ (.slice A2 y.f1.length c2)).setCell ⟨w.heap.size + 1, 3, none⟩ (.int .u64 y.f2))) (fun k hk _ => e3 k (by have := hk.2.1; omega))
    clear e3 e4 d0 d1 d2 d3 g0 g1 g2 g3
    generalize (((w2.setCell ⟨w.heap.size + 1, 0, none⟩ (.int .u64 y.f0.f0)).setCell ⟨w.heap.size + 1, 1, none⟩ (.int .u32 y.f0.f1)).setCell ⟨w.heap.size + 1, 2, none⟩ (.slice A2 y.f1.length c2)).setCell ⟨w.heap.size + 1, 3, none⟩ (.int .u64 y.f2) = WF at e2 hBF hRF ⊢
    have r0 := blk_cell e2 0
    have r1 := blk_cell e2 1
    have r2 := blk_cell e2 2
    have r3 := blk_cell e2 3
    refine bodyPost_ret (v := .tuple #[.agg #[.int .u64 y.f0.f0, .int .u32 y.f0.f1, .slice A2 y.f1.length c2, .int .u64 y.f2], .bool true]) (by simp [results, Try.results34, go_sem, r0, r1, r2, r3]; try rfl) rfl ?_
    exact ⟨_, rfl, Kd.R_lower (Kd.R_mono hRF (fun _ _ => trivial)) (by omega), hBF⟩
end Go.Proofs.Ytacacigpendneaa.QV
/- (*Wos).Len. -/
namespace Go.Proofs.Ytacacigpendneaa.QV
open Go.RowKit Go.Proofs.YtacacigpendneaaW.PrintWords Go.Proofs.Ytacacigpendneaa.Mp Go.Proofs.Ytacacigpendneaa.SeqW
set_option linter.unusedVariables false
set_option linter.unusedSimpArgs false
set_option maxRecDepth 100000
/-- k is how many F has. -/
def Many (F : Nm → Option Ver) (k : Nat) : Prop := ∀ L : List Nm, L.Nodup → (∀ a ∈ L, Nok a) → (∀ a, Nok a → ((F a).isSome = true ↔ a ∈ L)) → k = L.length
theorem FIs.isSome_ {w : World} {f : Nm → Option Value} {F : Nm → Option Ver} (h : FIs w f F) (a : Nm) (ha : Nok a) : (f a).isSome = (F a).isSome := by
  rcases h a ha with ⟨e1, e2⟩ | ⟨u, x, e1, e2, _⟩ <;> rw [e1, e2] <;> rfl
theorem len_any (w : World) (p m n : Nat) (R : Nat → Prop) (F : Nm → Option Ver) (h : Wo w p m n R F) :
    Calls Try.prog 25 #[.pointer (some ⟨p, 0, none⟩)] w fun e w' => w' = w ∧ ∃ k : Nat, e = .returned (.int .i64 k) ∧ k ≤ n ∧ Many F k := by
  obtain ⟨f, h1, h2⟩ := h.map
  obtain ⟨k, hk, hrun, hL⟩ := h1.len (tm := tMap) (e := tVer) Try.underlying74 3
  have hp := blk_cell h.box 0
  have hrun' : Sem.run Try.prog (Builtin.len_ #[tMap] 3 #[.map (some m)]) w = Result.ok (Value.int .i64 k) w := hrun
  go_enter Try.func25, Try.ntmps25
  go_wp2_with fail
  go_ret
  refine ⟨rfl, k, rfl, hk, fun L hn hok hF => hL L hn hok (fun a ha => ?_)⟩
  rw [h2.now.isSome_ a ha]
  exact hF a ha
end Go.Proofs.Ytacacigpendneaa.QV
