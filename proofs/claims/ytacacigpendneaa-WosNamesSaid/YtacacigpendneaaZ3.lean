/- The parts QVx6, WoBegun, WNames, WSeen, LNames of this proof, one behind the other. -/
import Derived.Test.YtacacigpendneaaZ2
/- Printed by mp.py (this session's) with the kit's print: plain functions with the answers of the Go code, and the proofs of it. -/
namespace Go.Proofs.Ytacacigpendneaa.QV
open Go.RowKit Go.Proofs.YtacacigpendneaaW.PrintWords Go.Proofs.YtacacigpendneaaW.PrintLast Go.Proofs.YtacacigpendneaaW.PrintMore
attribute [local go_sem] max2_int min2_int max_two min_two max_three min_three max_four min_four   -- for this text's walks alone
set_option linter.unusedVariables false
set_option linter.unusedSimpArgs false

/-! ### hayloftref10_Add: function 46 -/
def hayloftref10_Add.f (k : Nat) (l0 : List (S29)) (a1_0 : Int) (a1_1 : Int) (l1_2 : List (S69)) (a1_3 : Int) : Option ((List (S29)) × Int) := (hayloftref10_Place.f k l0 a1_0 a1_1).bind fun t132 => (if t132 ≥ 0 then (some (l0, 100)) else (if a1_3 = 0 then ((hayloftref10_Put.f k l0 a1_0 a1_1 l1_2 a1_3).bind fun t133 => (some (t133, 0))) else (if a1_3 ≤ a1_0 then (some (l0, 101)) else ((hayloftref10_Put.f k l0 a1_0 a1_1 l1_2 a1_3).bind fun t136 => (some (t136, 0))))))
theorem hayloftref10_Add.mono : ∀ a0 a1 a2 a3 a4 k, LeO (hayloftref10_Add.f k a0 a1 a2 a3 a4) (hayloftref10_Add.f (k + 1) a0 a1 a2 a3 a4) := by
  intro a0 a1 a2 a3 a4 k
  unfold hayloftref10_Add.f
  repeat' first
      | (with_reducible exact hayloftref10_Place.mono _ _ _ _)
      | (with_reducible exact hayloftref10_Put.mono _ _ _ _ _ _)
      | (with_reducible exact LeO.refl _)
      | (with_reducible exact LeO.none _)
      | (with_reducible refine LeO.ite ?_ ?_)
      | (with_reducible refine LeO.bind ?_ (fun _ => ?_))
      | exact hayloftref10_Place.mono _ _ _ _
      | exact hayloftref10_Put.mono _ _ _ _ _ _
      | exact LeO.none _
      | refine LeO.ite ?_ ?_
      | refine LeO.bind ?_ (fun _ => ?_)
set_option maxHeartbeats 8000000 in
set_option maxRecDepth 100000 in
theorem hayloftref10_Add.calls (k : Nat) (P0_ : Nat → Prop) (A0 : Option Addr) (c0 : Nat) (l0 : List (S29)) (a1_0 : Int) (a1_1 : Int) (P1_2_ : Nat → Prop) (A1_2 : Option Addr) (c1_2 : Nat) (l1_2 : List (S69)) (a1_3 : Int) (r1 : List (S29)) (r2 : Int) (w : World) (hs0 : Kd.V k29 29 w w.heap.size (fun k_ => P0_ k_) (.slice A0 l0.length c0) l0) (hs1_2 : Kd.V k69 69 w w.heap.size (fun k_ => P1_2_ k_) (.slice A1_2 l1_2.length c1_2) l1_2) (h : hayloftref10_Add.f k l0 a1_0 a1_1 l1_2 a1_3 = some (r1, r2)) :
    Calls Try.prog 46 #[.slice A0 l0.length c0, .agg #[.int .u64 a1_0, .int .u32 a1_1, .slice A1_2 l1_2.length c1_2, .int .u64 a1_3]] w fun e w' => ∃ v0_ : Value, e = .returned (.tuple #[v0_, .int .i64 r2]) ∧ Kd.V k29 29 w' w.heap.size (fun k_ => ((P0_ k_ ∨ P1_2_ k_) ∨ w.heap.size ≤ k_)) v0_ r1 ∧ Below w.heap.size w w' := by
  have hu29 := Try.underlying29
  have hu25 := Try.underlying25
  have HO0 := Aside0.mk (show Kd.V k29 29 w w.heap.size (fun k_ => ((P0_ k_ ∨ P1_2_ k_) ∨ w.heap.size ≤ k_)) (.slice A0 l0.length c0) l0 from Kd.V_mono hs0 (fun k_ hk => .inl (.inl hk)))
  have HO1_2 := Aside0.mk (show Kd.V k69 69 w w.heap.size (fun k_ => ((P0_ k_ ∨ P1_2_ k_) ∨ w.heap.size ≤ k_)) (.slice A1_2 l1_2.length c1_2) l1_2 from Kd.V_mono hs1_2 (fun k_ hk => .inl (.inr hk)))
  have HB := Aside0.mk (Below.refl w.heap.size w)
  have H : ((hayloftref10_Place.f k l0 a1_0 a1_1).bind fun t132 => (if t132 ≥ 0 then (some (l0, 100)) else (if a1_3 = 0 then ((hayloftref10_Put.f k l0 a1_0 a1_1 l1_2 a1_3).bind fun t133 => (some (t133, 0))) else (if a1_3 ≤ a1_0 then (some (l0, 101)) else ((hayloftref10_Put.f k l0 a1_0 a1_1 l1_2 a1_3).bind fun t136 => (some (t136, 0))))))) = some (r1, r2) := h
  clear h
  replace H := Option.bind_eq_some_iff.mp H
  obtain ⟨t132, A30, H⟩ := H
  replace H : (if t132 ≥ 0 then (some (l0, 100)) else (if a1_3 = 0 then ((hayloftref10_Put.f k l0 a1_0 a1_1 l1_2 a1_3).bind fun t133 => (some (t133, 0))) else (if a1_3 ≤ a1_0 then (some (l0, 101)) else ((hayloftref10_Put.f k l0 a1_0 a1_1 l1_2 a1_3).bind fun t136 => (some (t136, 0)))))) = some (r1, r2) := H
  have A3 := Aside0.mk A30
  clear A30
  by_cases c4 : t132 ≥ 0
  · rw [if_pos c4] at H
    have c4b0 : decide (0 ≤ t132) = true := decide_eq_true c4
    clear c4
    simp only [Option.some.injEq, Prod.mk.injEq] at H
    obtain ⟨rfl, rfl⟩ := H
    go_enter Try.func46, Try.ntmps46
    go_wp2_with (first | ((with_reducible refine gate_dst (N := 3) rfl ?_); refine box_event ?hg (N := 3) ?hd (cs := #[.int .u64 a1_0, .int .u32 a1_1, .slice A1_2 l1_2.length c1_2, .int .u64 a1_3]) (t := 29) ?hr ?_; (case hd => rfl); (case hg => rfl); (case hr => first | (go_simp; done) | (go_simp; rfl)); intro gb131 hg w5 hbox hb; have n0_ := Aside0.mk (Kd.V_below (Kd.V_elderB (by (with_reducible repeat (first | apply Kd.V_alloc | apply Kd.V_drewN | apply Kd.V_drew)); exact HO0.out) gb131 (Nat.le_of_eq hg.symm)) hb); have n1_ := Aside0.mk (Kd.V_below (Kd.V_elderB (by (with_reducible repeat (first | apply Kd.V_alloc | apply Kd.V_drewN | apply Kd.V_drew)); exact HO1_2.out) gb131 (Nat.le_of_eq hg.symm)) hb); have n2_ := Aside0.mk (below_step (by repeat (first | (with_reducible first | exact HB.out | apply below_alloc | apply pw_below_drewN | apply below_drew1) | exact HB.out)) hb); have n3_ := Aside0.mk (hbox); have n4_ := Aside0.mk ((by rw [hg]; exact (below_size (by repeat (first | (with_reducible first | exact HB.out | apply below_alloc | apply pw_below_drewN | apply below_drew1) | exact HB.out))) : w.heap.size ≤ gb131)); have n5_ := Aside0.mk ((by rw [hg]; exact (below_size (by repeat (first | (with_reducible first | exact HB.out | apply below_alloc | apply pw_below_drewN | apply below_drew1) | exact HB.out))) : w.heap.size ≤ gb131)); clear HO0; clear HO1_2; clear HB; have HO0 := n0_; have HO1_2 := n1_; have HB := n2_; have BK131 := n3_; have GW131 := n4_; have GE131 := n5_; clear n0_ n1_ n2_ n3_ n4_ n5_; clear hb hbox hg; have hcz6_0 : w5.cell? ⟨gb131, 0, none⟩ = some (.int .u64 a1_0) := (blk_cell BK131.out 0).trans rfl; have hcz6_1 : w5.cell? ⟨gb131, 1, none⟩ = some (.int .u32 a1_1) := (blk_cell BK131.out 1).trans rfl; have hcz6_2 : w5.cell? ⟨gb131, 2, none⟩ = some (.slice A1_2 l1_2.length c1_2) := (blk_cell BK131.out 2).trans rfl; have hcz6_3 : w5.cell? ⟨gb131, 3, none⟩ = some (.int .u64 a1_3) := (blk_cell BK131.out 3).trans rfl; have hfz6_0 := blk_frozen BK131.out 0; have hfz6_1 := blk_frozen BK131.out 1; have hfz6_2 := blk_frozen BK131.out 2; have hfz6_3 := blk_frozen BK131.out 3) | ((with_reducible refine gate_callee (f := 19) rfl ?_); refine goesL_ (some 9) rfl rfl Try.func19 (by kernel_rfl) rfl #[.slice A0 l0.length c0, .agg #[.int .u64 a1_0, .int .u32 a1_1]] rfl (by (try simp only [List.map_toArray, List.map_cons, List.map_nil]); first | done | rfl | (simp only [List.length_drop, List.length_take]; rfl)) ?_; (with_reducible refine (hayloftref10_Place.calls k _ _ l0 a1_0 a1_1 t132 _ ?side1 ?side2 A3.out).mono ?_); (case side1 => repeat (first | exact (Kd.V_reads' HO0.out).2.2 | (with_reducible refine Kd.C_alloc ?_ _) | (with_reducible refine Kd.C_drewN ?_ _) | (with_reducible refine Kd.C_drew ?_))); (case side2 => exact (Kd.V_reads' HO0.out).2.1); rintro e w7 ⟨rfl, hb⟩; refine ⟨_, rfl, ?_⟩; have n0_ := Aside0.mk (Kd.V_below (by (with_reducible repeat (first | apply Kd.V_alloc | apply Kd.V_drewN | apply Kd.V_drew)); exact HO0.out) hb); have n1_ := Aside0.mk (Kd.V_below (by (with_reducible repeat (first | apply Kd.V_alloc | apply Kd.V_drewN | apply Kd.V_drew)); exact HO1_2.out) hb); have n2_ := Aside0.mk (blk_below (g := gb131) (o := .cells #[.int .u64 a1_0, .int .u32 a1_1, .slice A1_2 l1_2.length c1_2, .int .u64 a1_3] 29 (0, 0)) (by (with_reducible repeat (first | refine blk_drewN ?_ _ | refine blk_drew ?_ | refine blk_alloc ?_ _)); exact BK131.out) hb); have n3_ := Aside0.mk (below_step (by repeat (first | (with_reducible first | exact HB.out | apply below_alloc | apply pw_below_drewN | apply below_drew1 | refine below_set ?_ GE131.out) | exact HB.out)) hb); clear HO0; clear HO1_2; clear BK131; clear HB; have HO0 := n0_; have HO1_2 := n1_; have BK131 := n2_; have HB := n3_; clear n0_ n1_ n2_ n3_; (try clear hb); (try clear hb2); (try clear hk); (try clear hi)))
    go_ret2
    exact ⟨_, by first | rfl | (simp [errW_none, errW_some] <;> rfl) | (simp [*, errW_none, errW_some] <;> rfl), by (with_reducible repeat (first | apply Kd.V_alloc | apply Kd.V_drewN | apply Kd.V_drew)); exact Kd.V_mono HO0.out (fun _ hk => hk.1), by repeat (first | (with_reducible first | exact HB.out | apply below_alloc | apply pw_below_drewN | apply below_drew1 | refine below_set ?_ GE131.out) | exact HB.out)⟩
  · rw [if_neg c4] at H
    have c4b0 : decide (0 ≤ t132) = false := decide_eq_false c4
    clear c4
    by_cases c8 : a1_3 = 0
    · rw [if_pos c8] at H
      have c8b0 : (a1_3 == 0) = true := beq_iff_eq.mpr c8
      have c8b1 : (a1_3 != 0) = false := bne_eq_false_iff_eq.mpr c8
      clear c8
      replace H := Option.bind_eq_some_iff.mp H
      obtain ⟨t133, A90, H⟩ := H
      replace H : (some (t133, 0)) = some (r1, r2) := H
      have A9 := Aside0.mk A90
      clear A90
      simp only [Option.some.injEq, Prod.mk.injEq] at H
      obtain ⟨rfl, rfl⟩ := H
      go_enter Try.func46, Try.ntmps46
      go_wp2_with (first | ((with_reducible refine gate_dst (N := 3) rfl ?_); refine box_event ?hg (N := 3) ?hd (cs := #[.int .u64 a1_0, .int .u32 a1_1, .slice A1_2 l1_2.length c1_2, .int .u64 a1_3]) (t := 29) ?hr ?_; (case hd => rfl); (case hg => rfl); (case hr => first | (go_simp; done) | (go_simp; rfl)); intro gb131 hg w10 hbox hb; have n0_ := Aside0.mk (Kd.V_below (Kd.V_elderB (by (with_reducible repeat (first | apply Kd.V_alloc | apply Kd.V_drewN | apply Kd.V_drew)); exact HO0.out) gb131 (Nat.le_of_eq hg.symm)) hb); have n1_ := Aside0.mk (Kd.V_below (Kd.V_elderB (by (with_reducible repeat (first | apply Kd.V_alloc | apply Kd.V_drewN | apply Kd.V_drew)); exact HO1_2.out) gb131 (Nat.le_of_eq hg.symm)) hb); have n2_ := Aside0.mk (below_step (by repeat (first | (with_reducible first | exact HB.out | apply below_alloc | apply pw_below_drewN | apply below_drew1) | exact HB.out)) hb); have n3_ := Aside0.mk (hbox); have n4_ := Aside0.mk ((by rw [hg]; exact (below_size (by repeat (first | (with_reducible first | exact HB.out | apply below_alloc | apply pw_below_drewN | apply below_drew1) | exact HB.out))) : w.heap.size ≤ gb131)); have n5_ := Aside0.mk ((by rw [hg]; exact (below_size (by repeat (first | (with_reducible first | exact HB.out | apply below_alloc | apply pw_below_drewN | apply below_drew1) | exact HB.out))) : w.heap.size ≤ gb131)); clear HO0; clear HO1_2; clear HB; have HO0 := n0_; have HO1_2 := n1_; have HB := n2_; have BK131 := n3_; have GW131 := n4_; have GE131 := n5_; clear n0_ n1_ n2_ n3_ n4_ n5_; clear hb hbox hg; have hcz11_0 : w10.cell? ⟨gb131, 0, none⟩ = some (.int .u64 a1_0) := (blk_cell BK131.out 0).trans rfl; have hcz11_1 : w10.cell? ⟨gb131, 1, none⟩ = some (.int .u32 a1_1) := (blk_cell BK131.out 1).trans rfl; have hcz11_2 : w10.cell? ⟨gb131, 2, none⟩ = some (.slice A1_2 l1_2.length c1_2) := (blk_cell BK131.out 2).trans rfl; have hcz11_3 : w10.cell? ⟨gb131, 3, none⟩ = some (.int .u64 a1_3) := (blk_cell BK131.out 3).trans rfl; have hfz11_0 := blk_frozen BK131.out 0; have hfz11_1 := blk_frozen BK131.out 1; have hfz11_2 := blk_frozen BK131.out 2; have hfz11_3 := blk_frozen BK131.out 3) | ((with_reducible refine gate_callee (f := 19) rfl ?_); refine goesL_ (some 9) rfl rfl Try.func19 (by kernel_rfl) rfl #[.slice A0 l0.length c0, .agg #[.int .u64 a1_0, .int .u32 a1_1]] rfl (by (try simp only [List.map_toArray, List.map_cons, List.map_nil]); first | done | rfl | (simp only [List.length_drop, List.length_take]; rfl)) ?_; (with_reducible refine (hayloftref10_Place.calls k _ _ l0 a1_0 a1_1 t132 _ ?side1 ?side2 A3.out).mono ?_); (case side1 => repeat (first | exact (Kd.V_reads' HO0.out).2.2 | (with_reducible refine Kd.C_alloc ?_ _) | (with_reducible refine Kd.C_drewN ?_ _) | (with_reducible refine Kd.C_drew ?_))); (case side2 => exact (Kd.V_reads' HO0.out).2.1); rintro e w12 ⟨rfl, hb⟩; refine ⟨_, rfl, ?_⟩; have n0_ := Aside0.mk (Kd.V_below (by (with_reducible repeat (first | apply Kd.V_alloc | apply Kd.V_drewN | apply Kd.V_drew)); exact HO0.out) hb); have n1_ := Aside0.mk (Kd.V_below (by (with_reducible repeat (first | apply Kd.V_alloc | apply Kd.V_drewN | apply Kd.V_drew)); exact HO1_2.out) hb); have n2_ := Aside0.mk (blk_below (g := gb131) (o := .cells #[.int .u64 a1_0, .int .u32 a1_1, .slice A1_2 l1_2.length c1_2, .int .u64 a1_3] 29 (0, 0)) (by (with_reducible repeat (first | refine blk_drewN ?_ _ | refine blk_drew ?_ | refine blk_alloc ?_ _)); exact BK131.out) hb); have n3_ := Aside0.mk (below_step (by repeat (first | (with_reducible first | exact HB.out | apply below_alloc | apply pw_below_drewN | apply below_drew1 | refine below_set ?_ GE131.out) | exact HB.out)) hb); clear HO0; clear HO1_2; clear BK131; clear HB; have HO0 := n0_; have HO1_2 := n1_; have BK131 := n2_; have HB := n3_; clear n0_ n1_ n2_ n3_; (try clear hb); (try clear hb2); (try clear hk); (try clear hi); have hcz13_0 : w12.cell? ⟨gb131, 0, none⟩ = some (.int .u64 a1_0) := (blk_cell BK131.out 0).trans rfl; have hcz13_1 : w12.cell? ⟨gb131, 1, none⟩ = some (.int .u32 a1_1) := (blk_cell BK131.out 1).trans rfl; have hcz13_2 : w12.cell? ⟨gb131, 2, none⟩ = some (.slice A1_2 l1_2.length c1_2) := (blk_cell BK131.out 2).trans rfl; have hcz13_3 : w12.cell? ⟨gb131, 3, none⟩ = some (.int .u64 a1_3) := (blk_cell BK131.out 3).trans rfl; have hfz13_0 := blk_frozen BK131.out 0; have hfz13_1 := blk_frozen BK131.out 1; have hfz13_2 := blk_frozen BK131.out 2; have hfz13_3 := blk_frozen BK131.out 3) | ((with_reducible refine gate_callee (f := 58) rfl ?_); refine goesL_ (some 26) rfl rfl Try.func58 (by kernel_rfl) rfl #[.slice A0 l0.length c0, .agg #[.int .u64 a1_0, .int .u32 a1_1, .slice A1_2 l1_2.length c1_2, .int .u64 a1_3]] rfl (by (try simp only [List.map_toArray, List.map_cons, List.map_nil]); first | done | rfl | (simp only [List.length_drop, List.length_take]; rfl)) ?_; (with_reducible refine (hayloftref10_Put.calls k (fun k_ => (((P0_ k_ ∨ P1_2_ k_) ∨ w.heap.size ≤ k_) ∧ k_ ≠ gb131)) _ _ l0 a1_0 a1_1 (fun k_ => (((P0_ k_ ∨ P1_2_ k_) ∨ w.heap.size ≤ k_) ∧ k_ ≠ gb131)) _ _ l1_2 a1_3 t133 _ ?side1 ?side2 A9.out).mono ?_); (case side1 => exact HO0.out); (case side2 => exact HO1_2.out); rintro e w14 ⟨v134, rfl, ho0, hb⟩; refine ⟨_, rfl, ?_⟩; have n0_ := Aside0.mk (Kd.V_elder' (by (with_reducible repeat (first | apply Kd.V_alloc | apply Kd.V_drewN | apply Kd.V_drew)); exact HO0.out) (Kd.N_base ho0) hb); have n1_ := Aside0.mk (Kd.V_elder' (by (with_reducible repeat (first | apply Kd.V_alloc | apply Kd.V_drewN | apply Kd.V_drew)); exact HO1_2.out) (Kd.N_base ho0) hb); have n2_ := Aside0.mk (Kd.N_lower (Kd.N_mono (ok' := fun k_ => ((P0_ k_ ∨ P1_2_ k_) ∨ w.heap.size ≤ k_) ∧ k_ ≠ gb131) ho0 (fun k_ hk_ => ⟨Or.elim hk_ (fun hs_ => Or.elim hs_ (fun hs_ => hs_.1) (fun hs_ => hs_.1)) (fun hn_ => (.inr (Nat.le_trans (below_size (by repeat (first | (with_reducible first | exact HB.out | apply below_alloc | apply pw_below_drewN | apply below_drew1 | refine below_set ?_ GE131.out) | exact HB.out))) hn_))), Or.elim hk_ (fun hs_ => Or.elim hs_ (fun hs_ => hs_.2) (fun hs_ => hs_.2)) (fun hn_ => (Kd.freshB (g := gb131) (o := .cells #[.int .u64 a1_0, .int .u32 a1_1, .slice A1_2 l1_2.length c1_2, .int .u64 a1_3] 29 (0, 0)) (by (with_reducible repeat (first | refine blk_drewN ?_ _ | refine blk_drew ?_ | refine blk_alloc ?_ _)); exact BK131.out) k_ hn_))⟩)) (below_size (by repeat (first | (with_reducible first | exact HB.out | apply below_alloc | apply pw_below_drewN | apply below_drew1 | refine below_set ?_ GE131.out) | exact HB.out)))); have n3_ := Aside0.mk (blk_below (g := gb131) (o := .cells #[.int .u64 a1_0, .int .u32 a1_1, .slice A1_2 l1_2.length c1_2, .int .u64 a1_3] 29 (0, 0)) (by (with_reducible repeat (first | refine blk_drewN ?_ _ | refine blk_drew ?_ | refine blk_alloc ?_ _)); exact BK131.out) hb); have n4_ := Aside0.mk (below_step (by repeat (first | (with_reducible first | exact HB.out | apply below_alloc | apply pw_below_drewN | apply below_drew1 | refine below_set ?_ GE131.out) | exact HB.out)) hb); clear HO0; clear HO1_2; clear BK131; clear HB; have HO0 := n0_; have HO1_2 := n1_; have HO135 := n2_; have BK131 := n3_; have HB := n4_; clear n0_ n1_ n2_ n3_ n4_; (try clear hb); (try clear hb2); (try clear hk); (try clear hi); (try clear ho0)))
      go_ret2
      exact ⟨_, by first | rfl | (simp [errW_none, errW_some] <;> rfl) | (simp [*, errW_none, errW_some] <;> rfl), Kd.N_V (by (with_reducible repeat (first | apply Kd.N_alloc | apply Kd.N_drewN | apply Kd.N_drew)); exact Kd.N_mono HO135.out (fun _ hk => hk.1)), by repeat (first | (with_reducible first | exact HB.out | apply below_alloc | apply pw_below_drewN | apply below_drew1 | refine below_set ?_ GE131.out) | exact HB.out)⟩
    · rw [if_neg c8] at H
      have c8b0 : (a1_3 == 0) = false := beq_eq_false_iff_ne.mpr c8
      have c8b1 : (a1_3 != 0) = true := bne_iff_ne.mpr c8
      by_cases c15 : a1_3 ≤ a1_0
      · rw [if_pos c15] at H
        have c15b0 : decide (a1_3 ≤ a1_0) = true := decide_eq_true c15
        clear c15
        simp only [Option.some.injEq, Prod.mk.injEq] at H
        obtain ⟨rfl, rfl⟩ := H
        go_enter Try.func46, Try.ntmps46
        go_wp2_with (first | ((with_reducible refine gate_dst (N := 3) rfl ?_); refine box_event ?hg (N := 3) ?hd (cs := #[.int .u64 a1_0, .int .u32 a1_1, .slice A1_2 l1_2.length c1_2, .int .u64 a1_3]) (t := 29) ?hr ?_; (case hd => rfl); (case hg => rfl); (case hr => first | (go_simp; done) | (go_simp; rfl)); intro gb131 hg w16 hbox hb; have n0_ := Aside0.mk (Kd.V_below (Kd.V_elderB (by (with_reducible repeat (first | apply Kd.V_alloc | apply Kd.V_drewN | apply Kd.V_drew)); exact HO0.out) gb131 (Nat.le_of_eq hg.symm)) hb); have n1_ := Aside0.mk (Kd.V_below (Kd.V_elderB (by (with_reducible repeat (first | apply Kd.V_alloc | apply Kd.V_drewN | apply Kd.V_drew)); exact HO1_2.out) gb131 (Nat.le_of_eq hg.symm)) hb); have n2_ := Aside0.mk (below_step (by repeat (first | (with_reducible first | exact HB.out | apply below_alloc | apply pw_below_drewN | apply below_drew1) | exact HB.out)) hb); have n3_ := Aside0.mk (hbox); have n4_ := Aside0.mk ((by rw [hg]; exact (below_size (by repeat (first | (with_reducible first | exact HB.out | apply below_alloc | apply pw_below_drewN | apply below_drew1) | exact HB.out))) : w.heap.size ≤ gb131)); have n5_ := Aside0.mk ((by rw [hg]; exact (below_size (by repeat (first | (with_reducible first | exact HB.out | apply below_alloc | apply pw_below_drewN | apply below_drew1) | exact HB.out))) : w.heap.size ≤ gb131)); clear HO0; clear HO1_2; clear HB; have HO0 := n0_; have HO1_2 := n1_; have HB := n2_; have BK131 := n3_; have GW131 := n4_; have GE131 := n5_; clear n0_ n1_ n2_ n3_ n4_ n5_; clear hb hbox hg; have hcz17_0 : w16.cell? ⟨gb131, 0, none⟩ = some (.int .u64 a1_0) := (blk_cell BK131.out 0).trans rfl; have hcz17_1 : w16.cell? ⟨gb131, 1, none⟩ = some (.int .u32 a1_1) := (blk_cell BK131.out 1).trans rfl; have hcz17_2 : w16.cell? ⟨gb131, 2, none⟩ = some (.slice A1_2 l1_2.length c1_2) := (blk_cell BK131.out 2).trans rfl; have hcz17_3 : w16.cell? ⟨gb131, 3, none⟩ = some (.int .u64 a1_3) := (blk_cell BK131.out 3).trans rfl; have hfz17_0 := blk_frozen BK131.out 0; have hfz17_1 := blk_frozen BK131.out 1; have hfz17_2 := blk_frozen BK131.out 2; have hfz17_3 := blk_frozen BK131.out 3) | ((with_reducible refine gate_callee (f := 19) rfl ?_); refine goesL_ (some 9) rfl rfl Try.func19 (by kernel_rfl) rfl #[.slice A0 l0.length c0, .agg #[.int .u64 a1_0, .int .u32 a1_1]] rfl (by (try simp only [List.map_toArray, List.map_cons, List.map_nil]); first | done | rfl | (simp only [List.length_drop, List.length_take]; rfl)) ?_; (with_reducible refine (hayloftref10_Place.calls k _ _ l0 a1_0 a1_1 t132 _ ?side1 ?side2 A3.out).mono ?_); (case side1 => repeat (first | exact (Kd.V_reads' HO0.out).2.2 | (with_reducible refine Kd.C_alloc ?_ _) | (with_reducible refine Kd.C_drewN ?_ _) | (with_reducible refine Kd.C_drew ?_))); (case side2 => exact (Kd.V_reads' HO0.out).2.1); rintro e w18 ⟨rfl, hb⟩; refine ⟨_, rfl, ?_⟩; have n0_ := Aside0.mk (Kd.V_below (by (with_reducible repeat (first | apply Kd.V_alloc | apply Kd.V_drewN | apply Kd.V_drew)); exact HO0.out) hb); have n1_ := Aside0.mk (Kd.V_below (by (with_reducible repeat (first | apply Kd.V_alloc | apply Kd.V_drewN | apply Kd.V_drew)); exact HO1_2.out) hb); have n2_ := Aside0.mk (blk_below (g := gb131) (o := .cells #[.int .u64 a1_0, .int .u32 a1_1, .slice A1_2 l1_2.length c1_2, .int .u64 a1_3] 29 (0, 0)) (by (with_reducible repeat (first | refine blk_drewN ?_ _ | refine blk_drew ?_ | refine blk_alloc ?_ _)); exact BK131.out) hb); have n3_ := Aside0.mk (below_step (by repeat (first | (with_reducible first | exact HB.out | apply below_alloc | apply pw_below_drewN | apply below_drew1 | refine below_set ?_ GE131.out) | exact HB.out)) hb); clear HO0; clear HO1_2; clear BK131; clear HB; have HO0 := n0_; have HO1_2 := n1_; have BK131 := n2_; have HB := n3_; clear n0_ n1_ n2_ n3_; (try clear hb); (try clear hb2); (try clear hk); (try clear hi); have hcz19_0 : w18.cell? ⟨gb131, 0, none⟩ = some (.int .u64 a1_0) := (blk_cell BK131.out 0).trans rfl; have hcz19_1 : w18.cell? ⟨gb131, 1, none⟩ = some (.int .u32 a1_1) := (blk_cell BK131.out 1).trans rfl; have hcz19_2 : w18.cell? ⟨gb131, 2, none⟩ = some (.slice A1_2 l1_2.length c1_2) := (blk_cell BK131.out 2).trans rfl; have hcz19_3 : w18.cell? ⟨gb131, 3, none⟩ = some (.int .u64 a1_3) := (blk_cell BK131.out 3).trans rfl; have hfz19_0 := blk_frozen BK131.out 0; have hfz19_1 := blk_frozen BK131.out 1; have hfz19_2 := blk_frozen BK131.out 2; have hfz19_3 := blk_frozen BK131.out 3))
        go_ret2
        exact ⟨_, by first | rfl | (simp [errW_none, errW_some] <;> rfl) | (simp [*, errW_none, errW_some] <;> rfl), by (with_reducible repeat (first | apply Kd.V_alloc | apply Kd.V_drewN | apply Kd.V_drew)); exact Kd.V_mono HO0.out (fun _ hk => hk.1), by repeat (first | (with_reducible first | exact HB.out | apply below_alloc | apply pw_below_drewN | apply below_drew1 | refine below_set ?_ GE131.out) | exact HB.out)⟩
      · rw [if_neg c15] at H
        have c15b0 : decide (a1_3 ≤ a1_0) = false := decide_eq_false c15
        clear c15
        replace H := Option.bind_eq_some_iff.mp H
        obtain ⟨t136, A200, H⟩ := H
        replace H : (some (t136, 0)) = some (r1, r2) := H
        have A20 := Aside0.mk A200
        clear A200
        simp only [Option.some.injEq, Prod.mk.injEq] at H
        obtain ⟨rfl, rfl⟩ := H
        go_enter Try.func46, Try.ntmps46
        go_wp2_with (first | ((with_reducible refine gate_dst (N := 3) rfl ?_); refine box_event ?hg (N := 3) ?hd (cs := #[.int .u64 a1_0, .int .u32 a1_1, .slice A1_2 l1_2.length c1_2, .int .u64 a1_3]) (t := 29) ?hr ?_; (case hd => rfl); (case hg => rfl); (case hr => first | (go_simp; done) | (go_simp; rfl)); intro gb131 hg w21 hbox hb; have n0_ := Aside0.mk (Kd.V_below (Kd.V_elderB (by (with_reducible repeat (first | apply Kd.V_alloc | apply Kd.V_drewN | apply Kd.V_drew)); exact HO0.out) gb131 (Nat.le_of_eq hg.symm)) hb); have n1_ := Aside0.mk (Kd.V_below (Kd.V_elderB (by (with_reducible repeat (first | apply Kd.V_alloc | apply Kd.V_drewN | apply Kd.V_drew)); exact HO1_2.out) gb131 (Nat.le_of_eq hg.symm)) hb); have n2_ := Aside0.mk (below_step (by repeat (first | (with_reducible first | exact HB.out | apply below_alloc | apply pw_below_drewN | apply below_drew1) | exact HB.out)) hb); have n3_ := Aside0.mk (hbox); have n4_ := Aside0.mk ((by rw [hg]; exact (below_size (by repeat (first | (with_reducible first | exact HB.out | apply below_alloc | apply pw_below_drewN | apply below_drew1) | exact HB.out))) : w.heap.size ≤ gb131)); have n5_ := Aside0.mk ((by rw [hg]; exact (below_size (by repeat (first | (with_reducible first | exact HB.out | apply below_alloc | apply pw_below_drewN | apply below_drew1) | exact HB.out))) : w.heap.size ≤ gb131)); clear HO0; clear HO1_2; clear HB; have HO0 := n0_; have HO1_2 := n1_; have HB := n2_; have BK131 := n3_; have GW131 := n4_; have GE131 := n5_; clear n0_ n1_ n2_ n3_ n4_ n5_; clear hb hbox hg; have hcz22_0 : w21.cell? ⟨gb131, 0, none⟩ = some (.int .u64 a1_0) := (blk_cell BK131.out 0).trans rfl; have hcz22_1 : w21.cell? ⟨gb131, 1, none⟩ = some (.int .u32 a1_1) := (blk_cell BK131.out 1).trans rfl; have hcz22_2 : w21.cell? ⟨gb131, 2, none⟩ = some (.slice A1_2 l1_2.length c1_2) := (blk_cell BK131.out 2).trans rfl; have hcz22_3 : w21.cell? ⟨gb131, 3, none⟩ = some (.int .u64 a1_3) := (blk_cell BK131.out 3).trans rfl; have hfz22_0 := blk_frozen BK131.out 0; have hfz22_1 := blk_frozen BK131.out 1; have hfz22_2 := blk_frozen BK131.out 2; have hfz22_3 := blk_frozen BK131.out 3) | ((with_reducible refine gate_callee (f := 19) rfl ?_); refine goesL_ (some 9) rfl rfl Try.func19 (by kernel_rfl) rfl #[.slice A0 l0.length c0, .agg #[.int .u64 a1_0, .int .u32 a1_1]] rfl (by (try simp only [List.map_toArray, List.map_cons, List.map_nil]); first | done | rfl | (simp only [List.length_drop, List.length_take]; rfl)) ?_; (with_reducible refine (hayloftref10_Place.calls k _ _ l0 a1_0 a1_1 t132 _ ?side1 ?side2 A3.out).mono ?_); (case side1 => repeat (first | exact (Kd.V_reads' HO0.out).2.2 | (with_reducible refine Kd.C_alloc ?_ _) | (with_reducible refine Kd.C_drewN ?_ _) | (with_reducible refine Kd.C_drew ?_))); (case side2 => exact (Kd.V_reads' HO0.out).2.1); rintro e w23 ⟨rfl, hb⟩; refine ⟨_, rfl, ?_⟩; have n0_ := Aside0.mk (Kd.V_below (by (with_reducible repeat (first | apply Kd.V_alloc | apply Kd.V_drewN | apply Kd.V_drew)); exact HO0.out) hb); have n1_ := Aside0.mk (Kd.V_below (by (with_reducible repeat (first | apply Kd.V_alloc | apply Kd.V_drewN | apply Kd.V_drew)); exact HO1_2.out) hb); have n2_ := Aside0.mk (blk_below (g := gb131) (o := .cells #[.int .u64 a1_0, .int .u32 a1_1, .slice A1_2 l1_2.length c1_2, .int .u64 a1_3] 29 (0, 0)) (by (with_reducible repeat (first | refine blk_drewN ?_ _ | refine blk_drew ?_ | refine blk_alloc ?_ _)); exact BK131.out) hb); have n3_ := Aside0.mk (below_step (by repeat (first | (with_reducible first | exact HB.out | apply below_alloc | apply pw_below_drewN | apply below_drew1 | refine below_set ?_ GE131.out) | exact HB.out)) hb); clear HO0; clear HO1_2; clear BK131; clear HB; have HO0 := n0_; have HO1_2 := n1_; have BK131 := n2_; have HB := n3_; clear n0_ n1_ n2_ n3_; (try clear hb); (try clear hb2); (try clear hk); (try clear hi); have hcz24_0 : w23.cell? ⟨gb131, 0, none⟩ = some (.int .u64 a1_0) := (blk_cell BK131.out 0).trans rfl; have hcz24_1 : w23.cell? ⟨gb131, 1, none⟩ = some (.int .u32 a1_1) := (blk_cell BK131.out 1).trans rfl; have hcz24_2 : w23.cell? ⟨gb131, 2, none⟩ = some (.slice A1_2 l1_2.length c1_2) := (blk_cell BK131.out 2).trans rfl; have hcz24_3 : w23.cell? ⟨gb131, 3, none⟩ = some (.int .u64 a1_3) := (blk_cell BK131.out 3).trans rfl; have hfz24_0 := blk_frozen BK131.out 0; have hfz24_1 := blk_frozen BK131.out 1; have hfz24_2 := blk_frozen BK131.out 2; have hfz24_3 := blk_frozen BK131.out 3) | ((with_reducible refine gate_callee (f := 58) rfl ?_); refine goesL_ (some 26) rfl rfl Try.func58 (by kernel_rfl) rfl #[.slice A0 l0.length c0, .agg #[.int .u64 a1_0, .int .u32 a1_1, .slice A1_2 l1_2.length c1_2, .int .u64 a1_3]] rfl (by (try simp only [List.map_toArray, List.map_cons, List.map_nil]); first | done | rfl | (simp only [List.length_drop, List.length_take]; rfl)) ?_; (with_reducible refine (hayloftref10_Put.calls k (fun k_ => (((P0_ k_ ∨ P1_2_ k_) ∨ w.heap.size ≤ k_) ∧ k_ ≠ gb131)) _ _ l0 a1_0 a1_1 (fun k_ => (((P0_ k_ ∨ P1_2_ k_) ∨ w.heap.size ≤ k_) ∧ k_ ≠ gb131)) _ _ l1_2 a1_3 t136 _ ?side1 ?side2 A20.out).mono ?_); (case side1 => exact HO0.out); (case side2 => exact HO1_2.out); rintro e w25 ⟨v137, rfl, ho0, hb⟩; refine ⟨_, rfl, ?_⟩; have n0_ := Aside0.mk (Kd.V_elder' (by (with_reducible repeat (first | apply Kd.V_alloc | apply Kd.V_drewN | apply Kd.V_drew)); exact HO0.out) (Kd.N_base ho0) hb); have n1_ := Aside0.mk (Kd.V_elder' (by (with_reducible repeat (first | apply Kd.V_alloc | apply Kd.V_drewN | apply Kd.V_drew)); exact HO1_2.out) (Kd.N_base ho0) hb); have n2_ := Aside0.mk (Kd.N_lower (Kd.N_mono (ok' := fun k_ => ((P0_ k_ ∨ P1_2_ k_) ∨ w.heap.size ≤ k_) ∧ k_ ≠ gb131) ho0 (fun k_ hk_ => ⟨Or.elim hk_ (fun hs_ => Or.elim hs_ (fun hs_ => hs_.1) (fun hs_ => hs_.1)) (fun hn_ => (.inr (Nat.le_trans (below_size (by repeat (first | (with_reducible first | exact HB.out | apply below_alloc | apply pw_below_drewN | apply below_drew1 | refine below_set ?_ GE131.out) | exact HB.out))) hn_))), Or.elim hk_ (fun hs_ => Or.elim hs_ (fun hs_ => hs_.2) (fun hs_ => hs_.2)) (fun hn_ => (Kd.freshB (g := gb131) (o := .cells #[.int .u64 a1_0, .int .u32 a1_1, .slice A1_2 l1_2.length c1_2, .int .u64 a1_3] 29 (0, 0)) (by (with_reducible repeat (first | refine blk_drewN ?_ _ | refine blk_drew ?_ | refine blk_alloc ?_ _)); exact BK131.out) k_ hn_))⟩)) (below_size (by repeat (first | (with_reducible first | exact HB.out | apply below_alloc | apply pw_below_drewN | apply below_drew1 | refine below_set ?_ GE131.out) | exact HB.out)))); have n3_ := Aside0.mk (blk_below (g := gb131) (o := .cells #[.int .u64 a1_0, .int .u32 a1_1, .slice A1_2 l1_2.length c1_2, .int .u64 a1_3] 29 (0, 0)) (by (with_reducible repeat (first | refine blk_drewN ?_ _ | refine blk_drew ?_ | refine blk_alloc ?_ _)); exact BK131.out) hb); have n4_ := Aside0.mk (below_step (by repeat (first | (with_reducible first | exact HB.out | apply below_alloc | apply pw_below_drewN | apply below_drew1 | refine below_set ?_ GE131.out) | exact HB.out)) hb); clear HO0; clear HO1_2; clear BK131; clear HB; have HO0 := n0_; have HO1_2 := n1_; have HO138 := n2_; have BK131 := n3_; have HB := n4_; clear n0_ n1_ n2_ n3_ n4_; (try clear hb); (try clear hb2); (try clear hk); (try clear hi); (try clear ho0)))
        go_ret2
        exact ⟨_, by first | rfl | (simp [errW_none, errW_some] <;> rfl) | (simp [*, errW_none, errW_some] <;> rfl), Kd.N_V (by (with_reducible repeat (first | apply Kd.N_alloc | apply Kd.N_drewN | apply Kd.N_drew)); exact Kd.N_mono HO138.out (fun _ hk => hk.1)), by repeat (first | (with_reducible first | exact HB.out | apply below_alloc | apply pw_below_drewN | apply below_drew1 | refine below_set ?_ GE131.out) | exact HB.out)⟩

/-! ### hayloftref10_Purge: function 48 -/
def hayloftref10_Purge.l0 : Nat → List (S29) → Int → List (S29) → Int → Option ((List (S29)))
  | 0, _, _, _, _ => none
  | k + 1, x0, x1, x5, x6 => if x6 < (x0.length : Int) then (if 0 ≤ x6 then (if ((rd_T29 x0 x6).f2) = 0 then (if x5.length < 2932031007402 then (hayloftref10_Purge.l0 k x0 x1 (x5 ++ [(⟨(⟨(rd_T29 x0 x6).f0.f0, (rd_T29 x0 x6).f0.f1⟩ : S25), (rd_T29 x0 x6).f1, (rd_T29 x0 x6).f2⟩ : S29)]) (wrap64 (x6 + 1))) else (none)) else (if ((rd_T29 x0 x6).f2) > x1 then (if x5.length < 2932031007402 then (hayloftref10_Purge.l0 k x0 x1 (x5 ++ [(⟨(⟨(rd_T29 x0 x6).f0.f0, (rd_T29 x0 x6).f0.f1⟩ : S25), (rd_T29 x0 x6).f1, (rd_T29 x0 x6).f2⟩ : S29)]) (wrap64 (x6 + 1))) else (none)) else (hayloftref10_Purge.l0 k x0 x1 x5 (wrap64 (x6 + 1))))) else (none)) else (some x5)
def hayloftref10_Purge.f (k : Nat) (l0 : List (S29)) (a1 : Int) : Option ((List (S29))) := hayloftref10_Purge.l0 k l0 a1 ([] : List (S29)) 0
theorem hayloftref10_Purge.mono_l : ∀ k, (∀ y0 y1 y2 y3, LeO (hayloftref10_Purge.l0 k y0 y1 y2 y3) (hayloftref10_Purge.l0 (k + 1) y0 y1 y2 y3))
  | 0 => fun _ _ _ _ r h => by simp [hayloftref10_Purge.l0] at h
  | k + 1 => by
    have ih0 := hayloftref10_Purge.mono_l k
    · intro y0 y1 y2 y3
      unfold hayloftref10_Purge.l0
      repeat' first
      | (with_reducible exact ih0 _ _ _ _)
      | (with_reducible exact LeO.refl _)
      | (with_reducible exact LeO.none _)
      | (with_reducible refine LeO.ite ?_ ?_)
      | (with_reducible refine LeO.bind ?_ (fun _ => ?_))
      | exact ih0 _ _ _ _
      | exact LeO.none _
      | refine LeO.ite ?_ ?_
      | refine LeO.bind ?_ (fun _ => ?_)
theorem hayloftref10_Purge.mono : ∀ a0 a1 k, LeO (hayloftref10_Purge.f k a0 a1) (hayloftref10_Purge.f (k + 1) a0 a1) := by
  intro a0 a1 k
  have ih0 := hayloftref10_Purge.mono_l k
  unfold hayloftref10_Purge.f
  repeat' first
      | (with_reducible exact ih0 _ _ _ _)
      | (with_reducible exact LeO.refl _)
      | (with_reducible exact LeO.none _)
      | (with_reducible refine LeO.ite ?_ ?_)
      | (with_reducible refine LeO.bind ?_ (fun _ => ?_))
      | exact ih0 _ _ _ _
      | exact LeO.none _
      | refine LeO.ite ?_ ?_
      | refine LeO.bind ?_ (fun _ => ?_)
set_option maxHeartbeats 8000000 in
set_option maxRecDepth 100000 in
theorem hayloftref10_Purge.calls (k : Nat) (P0_ : Nat → Prop) (A0 : Option Addr) (c0 : Nat) (l0 : List (S29)) (a1 : Int) (r : List (S29)) (w : World) (hs0 : Kd.V k29 29 w w.heap.size (fun k_ => P0_ k_) (.slice A0 l0.length c0) l0) (h : hayloftref10_Purge.f k l0 a1 = some r) :
    Calls Try.prog 48 #[.slice A0 l0.length c0, .int .u64 a1] w fun e w' => ∃ v0_ : Value, e = .returned (v0_) ∧ Kd.N k29 29 w' w.heap.size (fun k_ => (P0_ k_ ∨ w.heap.size ≤ k_)) v0_ r ∧ Below w.heap.size w w' := by
  have hu29 := Try.underlying29
  have HO0 := Aside0.mk (show Kd.V k29 29 w w.heap.size (fun k_ => (P0_ k_ ∨ w.heap.size ≤ k_)) (.slice A0 l0.length c0) l0 from Kd.V_mono hs0 (fun k_ hk => .inl hk))
  have HB := Aside0.mk (Below.refl w.heap.size w)
  have H : (hayloftref10_Purge.l0 k l0 a1 ([] : List (S29)) 0) = some r := h
  clear h
  have H' := Aside0.mk H
  clear H
  go_enter Try.func48, Try.ntmps48
  go_wp2
  go_loopg [5, 6] k (fun kq v5 v6 w' => ∃ (x5_1 : List (S29)) (x6_1 : Int), v6 = .int .i64 x6_1 ∧ Aside0 (hayloftref10_Purge.l0 kq l0 a1 x5_1 x6_1 = some r) ∧ Aside0 (kq ≤ k) ∧ Aside0 (Kd.V k29 29 w' w.heap.size (fun k_ => (P0_ k_ ∨ w.heap.size ≤ k_) ∧ some k_ ≠ (v5 : Value).ownBlock) (.slice A0 l0.length c0) l0) ∧ Aside0 (Kd.N k29 29 w' w.heap.size (fun k_ => (P0_ k_ ∨ w.heap.size ≤ k_)) v5 x5_1) ∧ Aside0 (Below w.heap.size w w'))
  case atStart => exact ⟨(([] : List (S29))), (0), (by first | rfl | (simp; done) | (simp [*]; done)), H', ⟨Nat.le_refl _⟩, ⟨by (with_reducible repeat (first | apply Kd.V_alloc | apply Kd.V_drewN | apply Kd.V_drew)); exact Kd.V_mono HO0.out (fun _ hk => ⟨hk, (by simp [Value.ownBlock])⟩)⟩, ⟨by first | exact Kd.S_nil _ _ _ _ _ | exact Kd.N_nil _ _ _ _ _ | exact Kd.V_nil _ _ _ _ _ | exact Kd.Q_nil _ _ _ _ _ | exact Kd.R_nil _ _ _ _ _⟩, ⟨by repeat (first | (with_reducible first | exact HB.out | apply below_alloc | apply pw_below_drewN | apply below_drew1) | exact HB.out)⟩⟩
  case round =>
    clear H'
    try clear p2
    obtain ⟨x5_1, x6_1, rfl, HA, HK1, HO_0, HO_5, HB⟩ := hrel
    cases gk with
    | zero => exact absurd HA.out (by simp [hayloftref10_Purge.l0])
    | succ k1 =>
      have H := HA.out
      clear HA
      simp only [hayloftref10_Purge.l0] at H
      by_cases c3 : x6_1 < (l0.length : Int)
      · rw [if_pos c3] at H
        have c3b0 : decide (x6_1 < (l0.length : Int)) = true := decide_eq_true c3
        clear c3
        by_cases c4 : 0 ≤ x6_1
        · rw [if_pos c4] at H
          have c4b0 : decide (0 ≤ x6_1) = true := decide_eq_true c4
          clear c4
          by_cases c5 : ((rd_T29 l0 x6_1).f2) = 0
          · rw [if_pos c5] at H
            have c5b0 : (((rd_T29 l0 x6_1).f2) == 0) = true := beq_iff_eq.mpr c5
            have c5b1 : (((rd_T29 l0 x6_1).f2) != 0) = false := bne_eq_false_iff_eq.mpr c5
            clear c5
            by_cases c6 : x5_1.length < 2932031007402
            · rw [if_pos c6] at H
              have LMc6 := Aside0.mk c6
              clear c6
              obtain ⟨y141, hy141⟩ : ∃ y_ : List (S29), y_ = (x5_1 ++ [(⟨(⟨(rd_T29 l0 x6_1).f0.f0, (rd_T29 l0 x6_1).f0.f1⟩ : S25), (rd_T29 l0 x6_1).f1, (rd_T29 l0 x6_1).f2⟩ : S29)]) := ⟨_, rfl⟩
              replace H : (hayloftref10_Purge.l0 k1 l0 a1 y141 (wrap64 (x6_1 + 1))) = some r := by first | (rw [hy141]; with_reducible exact H) | (have H2_ := (Option.bind_some _ _).symm.trans H; rw [hy141]; with_reducible exact H2_) | (have H2_ := (Option.bind_some _ _).symm.trans H; with_reducible exact H2_) | with_reducible exact H | (rw [hy141]; exact H) | exact H
              have Ny141 := Aside0.mk hy141
              clear hy141
              have H' := Aside0.mk H
              clear H
              have p139 : 0 ≤ (x6_1 : Int) := of_decide_eq_true (by first | (with_reducible assumption) | assumption)
              have q139 : x6_1 < (l0.length : Int) := of_decide_eq_true (by first | (with_reducible assumption) | assumption)
              obtain ⟨ad139, A139_2, c139_2, e139, hx139_0, hx139_1, hx139_2, hx139_3, hl139_2, hi139_2⟩ := at_T29 (Kd.V_reads' HO_0.out).2.2 x6_1 p139 q139
              cases e139
              obtain ⟨ce139, hce139, hMe139, hcc139⟩ := Kd.V_get HO_0.out z29 x6_1 p139 (by first | exact q139 | exact of_decide_eq_true (by first | (with_reducible assumption) | assumption) | (have e_ := (Kd.V_reads' HO_0.out).1; omega))
              obtain ⟨ua139_2, uc139_2, rfl, ul139_2, ge139_2⟩ := k29_openF hMe139
              have hv139_2 := hcc139 2 _ rfl
              rw [add_field _ _ 2 (by omega)] at hv139_2
              replace hv139_2 := Option.some.inj (hv139_2.symm.trans hx139_2)
              injection hv139_2 with hva_ hvn_ hvc_
              rw [hva_] at ge139_2
              rw [hvc_] at ul139_2
              have HL139_2 := Aside0.mk (show Kd.V k69 69 _ w.heap.size _ _ ((rd_T29 l0 x6_1).f1) from Kd.V_mk ul139_2 ge139_2)
              clear hva_ hvn_ hvc_ ge139_2 ul139_2
              clear hcc139 hce139
              have HR139_2 := Aside0.mk hi139_2
              have HC139_2 := Aside0.mk hl139_2
              clear hi139_2 hl139_2
              replace p139 := eq_true p139
              replace q139 := eq_true q139
              have p140 : 0 ≤ (x6_1 : Int) := of_decide_eq_true (by first | (with_reducible assumption) | assumption)
              have q140 : x6_1 < (l0.length : Int) := of_decide_eq_true (by first | (with_reducible assumption) | assumption)
              obtain ⟨ad140, A140_2, c140_2, e140, hx140_0, hx140_1, hx140_2, hx140_3, hl140_2, hi140_2⟩ := at_T29 (Kd.V_reads' HO_0.out).2.2 x6_1 p140 q140
              obtain rfl : ad139 = ad140 := (by injection e140)
              obtain ⟨ce140, hce140, hMe140, hcc140⟩ := Kd.V_get HO_0.out z29 x6_1 p140 (by first | exact q140 | exact of_decide_eq_true (by first | (with_reducible assumption) | assumption) | (have e_ := (Kd.V_reads' HO_0.out).1; omega))
              obtain ⟨ua140_2, uc140_2, rfl, ul140_2, ge140_2⟩ := k29_openF hMe140
              have hv140_2 := hcc140 2 _ rfl
              rw [add_field _ _ 2 (by omega)] at hv140_2
              replace hv140_2 := Option.some.inj (hv140_2.symm.trans hx140_2)
              injection hv140_2 with hva_ hvn_ hvc_
              rw [hva_] at ge140_2
              rw [hvc_] at ul140_2
              have HL140_2 := Aside0.mk (show Kd.V k69 69 _ w.heap.size _ _ ((rd_T29 l0 x6_1).f1) from Kd.V_mk ul140_2 ge140_2)
              clear hva_ hvn_ hvc_ ge140_2 ul140_2
              clear hcc140 hce140
              have HR140_2 := Aside0.mk hi140_2
              have HC140_2 := Aside0.mk hl140_2
              clear hi140_2 hl140_2
              replace p140 := eq_true p140
              replace q140 := eq_true q140
              have ea_ := Option.some.inj (hx139_2.symm.trans hx140_2)
              injection ea_ with ea_ en_ ec_
              subst ea_
              subst ec_
              clear en_
              go_wp2_with (first | ((with_reducible refine gate_builtin (b := .append) (xs := #[.tmp 28, .tmp 33]) rfl ?_); at_builtin; refine Kd.N_append k29 (w0 := w) w.heap.size rfl (.tmp 28) (.tmp 33) 38 29 (.agg #[(.int .u64 0), (.int .u32 0), (.slice none 0 0), (.int .u64 0)]) 48 rfl Try.underlying38 info29 rfl (by decide) (by omega) u5 x5_1 (⟨(⟨(rd_T29 l0 x6_1).f0.f0, (rd_T29 l0 x6_1).f0.f1⟩ : S25), (rd_T29 l0 x6_1).f1, (rd_T29 l0 x6_1).f2⟩ : S29) [.int .u64 ((rd_T29 l0 x6_1).f0.f0), .int .u32 ((rd_T29 l0 x6_1).f0.f1), .slice A139_2 ((rd_T29 l0 x6_1).f1).length c139_2, .int .u64 ((rd_T29 l0 x6_1).f2)] (fun k_ => (P0_ k_ ∨ w.heap.size ≤ k_)) (fun k_ => ((fun k_ => (P0_ k_ ∨ w.heap.size ≤ k_))) k_ ∧ some k_ ≠ (u5 : Value).ownBlock) rfl rfl ?aP (fun _ hk => hk) ?aF ?aO ?aB ?aS ?aL ?_; (case aP => exact (k29_mkF _ _ (⟨(⟨(rd_T29 l0 x6_1).f0.f0, (rd_T29 l0 x6_1).f0.f1⟩ : S25), (rd_T29 l0 x6_1).f1, (rd_T29 l0 x6_1).f2⟩ : S29) (Kd.V_reads' (Kd.V_mono (ok' := (fun k_ => ((fun k_ => (P0_ k_ ∨ w.heap.size ≤ k_))) k_ ∧ some k_ ≠ (u5 : Value).ownBlock)) (HL140_2.out) (fun k_ hk => ⟨hk.1, hk.2⟩))).2.1 (Kd.V_F (Kd.V_mono (ok' := (fun k_ => ((fun k_ => (P0_ k_ ∨ w.heap.size ≤ k_))) k_ ∧ some k_ ≠ (u5 : Value).ownBlock)) (HL140_2.out) (fun k_ hk => ⟨hk.1, hk.2⟩))))); (case aB => exact (by repeat (first | (with_reducible first | exact HB.out | apply below_alloc | apply pw_below_drewN | apply below_drew1) | exact HB.out))); (case aF => exact (fun k_ hk => (.inr (Nat.le_trans (below_size (by repeat (first | (with_reducible first | exact HB.out | apply below_alloc | apply pw_below_drewN | apply below_drew1) | exact HB.out))) hk)))); (case aO => exact (by (with_reducible repeat (first | apply Kd.N_alloc | apply Kd.N_drewN | apply Kd.N_drew)); exact HO_5.out)); (case aS => exact (below_size (by repeat (first | (with_reducible first | exact HB.out | apply below_alloc | apply pw_below_drewN | apply below_drew1) | exact HB.out)))); (case aL => have := LMc6.out; omega); intro v142 w7 ho hb hg hat; rw [← Ny141.out] at ho; have n0_ := Aside0.mk (Kd.V_afterv (ok := (fun k_ => (P0_ k_ ∨ w.heap.size ≤ k_))) (by (with_reducible repeat (first | apply Kd.V_alloc | apply Kd.V_drewN | apply Kd.V_drew)); exact HO_0.out) hg hat); have n1_ := Aside0.mk (Kd.V_afterv (ok := (fun k_ => (P0_ k_ ∨ w.heap.size ≤ k_))) (by (with_reducible repeat (first | apply Kd.V_alloc | apply Kd.V_drewN | apply Kd.V_drew)); exact HL139_2.out) hg hat); have n2_ := Aside0.mk (Kd.V_afterv (ok := (fun k_ => (P0_ k_ ∨ w.heap.size ≤ k_))) (by (with_reducible repeat (first | apply Kd.V_alloc | apply Kd.V_drewN | apply Kd.V_drew)); exact HL140_2.out) hg hat); have n3_ := Aside0.mk (hb); have n4_ := Aside0.mk (ho); clear HO_0; clear HL139_2; clear HL140_2; clear HB; clear HO_5; have HO_0 := n0_; have HL139_2 := n1_; have HL140_2 := n2_; have HB := n3_; have HO143 := n4_; clear n0_ n1_ n2_ n3_ n4_; clear ho hb hg hat))
              go_roundg k1
              case measure => have := HK1.out; omega
              case rel => exact ⟨(y141), (wrap64 (x6_1 + 1)), (by first | rfl | (simp; done) | (simp [*]; done)), H', ⟨by have := HK1.out; omega⟩, ⟨by (with_reducible repeat (first | apply Kd.V_alloc | apply Kd.V_drewN | apply Kd.V_drew)); exact HO_0.out⟩, ⟨by (with_reducible repeat (first | apply Kd.N_alloc | apply Kd.N_drewN | apply Kd.N_drew)); exact HO143.out⟩, ⟨by repeat (first | (with_reducible first | exact HB.out | apply below_alloc | apply pw_below_drewN | apply below_drew1) | exact HB.out)⟩⟩
            · rw [if_neg c6] at H
              exact absurd H (by simp)
          · rw [if_neg c5] at H
            have c5b0 : (((rd_T29 l0 x6_1).f2) == 0) = false := beq_eq_false_iff_ne.mpr c5
            have c5b1 : (((rd_T29 l0 x6_1).f2) != 0) = true := bne_iff_ne.mpr c5
            by_cases c8 : ((rd_T29 l0 x6_1).f2) > a1
            · rw [if_pos c8] at H
              have c8b0 : decide (a1 < ((rd_T29 l0 x6_1).f2)) = true := decide_eq_true c8
              clear c8
              by_cases c9 : x5_1.length < 2932031007402
              · rw [if_pos c9] at H
                have LMc9 := Aside0.mk c9
                clear c9
                obtain ⟨y146, hy146⟩ : ∃ y_ : List (S29), y_ = (x5_1 ++ [(⟨(⟨(rd_T29 l0 x6_1).f0.f0, (rd_T29 l0 x6_1).f0.f1⟩ : S25), (rd_T29 l0 x6_1).f1, (rd_T29 l0 x6_1).f2⟩ : S29)]) := ⟨_, rfl⟩
                replace H : (hayloftref10_Purge.l0 k1 l0 a1 y146 (wrap64 (x6_1 + 1))) = some r := by first | (rw [hy146]; with_reducible exact H) | (have H2_ := (Option.bind_some _ _).symm.trans H; rw [hy146]; with_reducible exact H2_) | (have H2_ := (Option.bind_some _ _).symm.trans H; with_reducible exact H2_) | with_reducible exact H | (rw [hy146]; exact H) | exact H
                have Ny146 := Aside0.mk hy146
                clear hy146
                have H' := Aside0.mk H
                clear H
                have p139 : 0 ≤ (x6_1 : Int) := of_decide_eq_true (by first | (with_reducible assumption) | assumption)
                have q139 : x6_1 < (l0.length : Int) := of_decide_eq_true (by first | (with_reducible assumption) | assumption)
                obtain ⟨ad139, A139_2, c139_2, e139, hx139_0, hx139_1, hx139_2, hx139_3, hl139_2, hi139_2⟩ := at_T29 (Kd.V_reads' HO_0.out).2.2 x6_1 p139 q139
                cases e139
                obtain ⟨ce139, hce139, hMe139, hcc139⟩ := Kd.V_get HO_0.out z29 x6_1 p139 (by first | exact q139 | exact of_decide_eq_true (by first | (with_reducible assumption) | assumption) | (have e_ := (Kd.V_reads' HO_0.out).1; omega))
                obtain ⟨ua139_2, uc139_2, rfl, ul139_2, ge139_2⟩ := k29_openF hMe139
                have hv139_2 := hcc139 2 _ rfl
                rw [add_field _ _ 2 (by omega)] at hv139_2
                replace hv139_2 := Option.some.inj (hv139_2.symm.trans hx139_2)
                injection hv139_2 with hva_ hvn_ hvc_
                rw [hva_] at ge139_2
                rw [hvc_] at ul139_2
                have HL139_2 := Aside0.mk (show Kd.V k69 69 _ w.heap.size _ _ ((rd_T29 l0 x6_1).f1) from Kd.V_mk ul139_2 ge139_2)
                clear hva_ hvn_ hvc_ ge139_2 ul139_2
                clear hcc139 hce139
                have HR139_2 := Aside0.mk hi139_2
                have HC139_2 := Aside0.mk hl139_2
                clear hi139_2 hl139_2
                replace p139 := eq_true p139
                replace q139 := eq_true q139
                have p144 : 0 ≤ (x6_1 : Int) := of_decide_eq_true (by first | (with_reducible assumption) | assumption)
                have q144 : x6_1 < (l0.length : Int) := of_decide_eq_true (by first | (with_reducible assumption) | assumption)
                obtain ⟨ad144, A144_2, c144_2, e144, hx144_0, hx144_1, hx144_2, hx144_3, hl144_2, hi144_2⟩ := at_T29 (Kd.V_reads' HO_0.out).2.2 x6_1 p144 q144
                obtain rfl : ad139 = ad144 := (by injection e144)
                obtain ⟨ce144, hce144, hMe144, hcc144⟩ := Kd.V_get HO_0.out z29 x6_1 p144 (by first | exact q144 | exact of_decide_eq_true (by first | (with_reducible assumption) | assumption) | (have e_ := (Kd.V_reads' HO_0.out).1; omega))
                obtain ⟨ua144_2, uc144_2, rfl, ul144_2, ge144_2⟩ := k29_openF hMe144
                have hv144_2 := hcc144 2 _ rfl
                rw [add_field _ _ 2 (by omega)] at hv144_2
                replace hv144_2 := Option.some.inj (hv144_2.symm.trans hx144_2)
                injection hv144_2 with hva_ hvn_ hvc_
                rw [hva_] at ge144_2
                rw [hvc_] at ul144_2
                have HL144_2 := Aside0.mk (show Kd.V k69 69 _ w.heap.size _ _ ((rd_T29 l0 x6_1).f1) from Kd.V_mk ul144_2 ge144_2)
                clear hva_ hvn_ hvc_ ge144_2 ul144_2
                clear hcc144 hce144
                have HR144_2 := Aside0.mk hi144_2
                have HC144_2 := Aside0.mk hl144_2
                clear hi144_2 hl144_2
                replace p144 := eq_true p144
                replace q144 := eq_true q144
                have ea_ := Option.some.inj (hx139_2.symm.trans hx144_2)
                injection ea_ with ea_ en_ ec_
                subst ea_
                subst ec_
                clear en_
                have p145 : 0 ≤ (x6_1 : Int) := of_decide_eq_true (by first | (with_reducible assumption) | assumption)
                have q145 : x6_1 < (l0.length : Int) := of_decide_eq_true (by first | (with_reducible assumption) | assumption)
                obtain ⟨ad145, A145_2, c145_2, e145, hx145_0, hx145_1, hx145_2, hx145_3, hl145_2, hi145_2⟩ := at_T29 (Kd.V_reads' HO_0.out).2.2 x6_1 p145 q145
                obtain rfl : ad139 = ad145 := (by injection e145)
                obtain ⟨ce145, hce145, hMe145, hcc145⟩ := Kd.V_get HO_0.out z29 x6_1 p145 (by first | exact q145 | exact of_decide_eq_true (by first | (with_reducible assumption) | assumption) | (have e_ := (Kd.V_reads' HO_0.out).1; omega))
                obtain ⟨ua145_2, uc145_2, rfl, ul145_2, ge145_2⟩ := k29_openF hMe145
                have hv145_2 := hcc145 2 _ rfl
                rw [add_field _ _ 2 (by omega)] at hv145_2
                replace hv145_2 := Option.some.inj (hv145_2.symm.trans hx145_2)
                injection hv145_2 with hva_ hvn_ hvc_
                rw [hva_] at ge145_2
                rw [hvc_] at ul145_2
                have HL145_2 := Aside0.mk (show Kd.V k69 69 _ w.heap.size _ _ ((rd_T29 l0 x6_1).f1) from Kd.V_mk ul145_2 ge145_2)
                clear hva_ hvn_ hvc_ ge145_2 ul145_2
                clear hcc145 hce145
                have HR145_2 := Aside0.mk hi145_2
                have HC145_2 := Aside0.mk hl145_2
                clear hi145_2 hl145_2
                replace p145 := eq_true p145
                replace q145 := eq_true q145
                have ea_ := Option.some.inj (hx139_2.symm.trans hx145_2)
                injection ea_ with ea_ en_ ec_
                subst ea_
                subst ec_
                clear en_
                go_wp2_with (first | ((with_reducible refine gate_builtin (b := .append) (xs := #[.tmp 28, .tmp 33]) rfl ?_); at_builtin; refine Kd.N_append k29 (w0 := w) w.heap.size rfl (.tmp 28) (.tmp 33) 38 29 (.agg #[(.int .u64 0), (.int .u32 0), (.slice none 0 0), (.int .u64 0)]) 48 rfl Try.underlying38 info29 rfl (by decide) (by omega) u5 x5_1 (⟨(⟨(rd_T29 l0 x6_1).f0.f0, (rd_T29 l0 x6_1).f0.f1⟩ : S25), (rd_T29 l0 x6_1).f1, (rd_T29 l0 x6_1).f2⟩ : S29) [.int .u64 ((rd_T29 l0 x6_1).f0.f0), .int .u32 ((rd_T29 l0 x6_1).f0.f1), .slice A139_2 ((rd_T29 l0 x6_1).f1).length c139_2, .int .u64 ((rd_T29 l0 x6_1).f2)] (fun k_ => (P0_ k_ ∨ w.heap.size ≤ k_)) (fun k_ => ((fun k_ => (P0_ k_ ∨ w.heap.size ≤ k_))) k_ ∧ some k_ ≠ (u5 : Value).ownBlock) rfl rfl ?aP (fun _ hk => hk) ?aF ?aO ?aB ?aS ?aL ?_; (case aP => exact (k29_mkF _ _ (⟨(⟨(rd_T29 l0 x6_1).f0.f0, (rd_T29 l0 x6_1).f0.f1⟩ : S25), (rd_T29 l0 x6_1).f1, (rd_T29 l0 x6_1).f2⟩ : S29) (Kd.V_reads' (Kd.V_mono (ok' := (fun k_ => ((fun k_ => (P0_ k_ ∨ w.heap.size ≤ k_))) k_ ∧ some k_ ≠ (u5 : Value).ownBlock)) (HL145_2.out) (fun k_ hk => ⟨hk.1, hk.2⟩))).2.1 (Kd.V_F (Kd.V_mono (ok' := (fun k_ => ((fun k_ => (P0_ k_ ∨ w.heap.size ≤ k_))) k_ ∧ some k_ ≠ (u5 : Value).ownBlock)) (HL145_2.out) (fun k_ hk => ⟨hk.1, hk.2⟩))))); (case aB => exact (by repeat (first | (with_reducible first | exact HB.out | apply below_alloc | apply pw_below_drewN | apply below_drew1) | exact HB.out))); (case aF => exact (fun k_ hk => (.inr (Nat.le_trans (below_size (by repeat (first | (with_reducible first | exact HB.out | apply below_alloc | apply pw_below_drewN | apply below_drew1) | exact HB.out))) hk)))); (case aO => exact (by (with_reducible repeat (first | apply Kd.N_alloc | apply Kd.N_drewN | apply Kd.N_drew)); exact HO_5.out)); (case aS => exact (below_size (by repeat (first | (with_reducible first | exact HB.out | apply below_alloc | apply pw_below_drewN | apply below_drew1) | exact HB.out)))); (case aL => have := LMc9.out; omega); intro v147 w10 ho hb hg hat; rw [← Ny146.out] at ho; have n0_ := Aside0.mk (Kd.V_afterv (ok := (fun k_ => (P0_ k_ ∨ w.heap.size ≤ k_))) (by (with_reducible repeat (first | apply Kd.V_alloc | apply Kd.V_drewN | apply Kd.V_drew)); exact HO_0.out) hg hat); have n1_ := Aside0.mk (Kd.V_afterv (ok := (fun k_ => (P0_ k_ ∨ w.heap.size ≤ k_))) (by (with_reducible repeat (first | apply Kd.V_alloc | apply Kd.V_drewN | apply Kd.V_drew)); exact HL139_2.out) hg hat); have n2_ := Aside0.mk (Kd.V_afterv (ok := (fun k_ => (P0_ k_ ∨ w.heap.size ≤ k_))) (by (with_reducible repeat (first | apply Kd.V_alloc | apply Kd.V_drewN | apply Kd.V_drew)); exact HL144_2.out) hg hat); have n3_ := Aside0.mk (Kd.V_afterv (ok := (fun k_ => (P0_ k_ ∨ w.heap.size ≤ k_))) (by (with_reducible repeat (first | apply Kd.V_alloc | apply Kd.V_drewN | apply Kd.V_drew)); exact HL145_2.out) hg hat); have n4_ := Aside0.mk (hb); have n5_ := Aside0.mk (ho); clear HO_0; clear HL139_2; clear HL144_2; clear HL145_2; clear HB; clear HO_5; have HO_0 := n0_; have HL139_2 := n1_; have HL144_2 := n2_; have HL145_2 := n3_; have HB := n4_; have HO148 := n5_; clear n0_ n1_ n2_ n3_ n4_ n5_; clear ho hb hg hat))
                go_roundg k1
                case measure => have := HK1.out; omega
                case rel => exact ⟨(y146), (wrap64 (x6_1 + 1)), (by first | rfl | (simp; done) | (simp [*]; done)), H', ⟨by have := HK1.out; omega⟩, ⟨by (with_reducible repeat (first | apply Kd.V_alloc | apply Kd.V_drewN | apply Kd.V_drew)); exact HO_0.out⟩, ⟨by (with_reducible repeat (first | apply Kd.N_alloc | apply Kd.N_drewN | apply Kd.N_drew)); exact HO148.out⟩, ⟨by repeat (first | (with_reducible first | exact HB.out | apply below_alloc | apply pw_below_drewN | apply below_drew1) | exact HB.out)⟩⟩
              · rw [if_neg c9] at H
                exact absurd H (by simp)
            · rw [if_neg c8] at H
              have c8b0 : decide (a1 < ((rd_T29 l0 x6_1).f2)) = false := decide_eq_false c8
              clear c8
              have H' := Aside0.mk H
              clear H
              have p139 : 0 ≤ (x6_1 : Int) := of_decide_eq_true (by first | (with_reducible assumption) | assumption)
              have q139 : x6_1 < (l0.length : Int) := of_decide_eq_true (by first | (with_reducible assumption) | assumption)
              obtain ⟨ad139, A139_2, c139_2, e139, hx139_0, hx139_1, hx139_2, hx139_3, hl139_2, hi139_2⟩ := at_T29 (Kd.V_reads' HO_0.out).2.2 x6_1 p139 q139
              cases e139
              obtain ⟨ce139, hce139, hMe139, hcc139⟩ := Kd.V_get HO_0.out z29 x6_1 p139 (by first | exact q139 | exact of_decide_eq_true (by first | (with_reducible assumption) | assumption) | (have e_ := (Kd.V_reads' HO_0.out).1; omega))
              obtain ⟨ua139_2, uc139_2, rfl, ul139_2, ge139_2⟩ := k29_openF hMe139
              have hv139_2 := hcc139 2 _ rfl
              rw [add_field _ _ 2 (by omega)] at hv139_2
              replace hv139_2 := Option.some.inj (hv139_2.symm.trans hx139_2)
              injection hv139_2 with hva_ hvn_ hvc_
              rw [hva_] at ge139_2
              rw [hvc_] at ul139_2
              have HL139_2 := Aside0.mk (show Kd.V k69 69 _ w.heap.size _ _ ((rd_T29 l0 x6_1).f1) from Kd.V_mk ul139_2 ge139_2)
              clear hva_ hvn_ hvc_ ge139_2 ul139_2
              clear hcc139 hce139
              have HR139_2 := Aside0.mk hi139_2
              have HC139_2 := Aside0.mk hl139_2
              clear hi139_2 hl139_2
              replace p139 := eq_true p139
              replace q139 := eq_true q139
              have p144 : 0 ≤ (x6_1 : Int) := of_decide_eq_true (by first | (with_reducible assumption) | assumption)
              have q144 : x6_1 < (l0.length : Int) := of_decide_eq_true (by first | (with_reducible assumption) | assumption)
              obtain ⟨ad144, A144_2, c144_2, e144, hx144_0, hx144_1, hx144_2, hx144_3, hl144_2, hi144_2⟩ := at_T29 (Kd.V_reads' HO_0.out).2.2 x6_1 p144 q144
              obtain rfl : ad139 = ad144 := (by injection e144)
              obtain ⟨ce144, hce144, hMe144, hcc144⟩ := Kd.V_get HO_0.out z29 x6_1 p144 (by first | exact q144 | exact of_decide_eq_true (by first | (with_reducible assumption) | assumption) | (have e_ := (Kd.V_reads' HO_0.out).1; omega))
              obtain ⟨ua144_2, uc144_2, rfl, ul144_2, ge144_2⟩ := k29_openF hMe144
              have hv144_2 := hcc144 2 _ rfl
              rw [add_field _ _ 2 (by omega)] at hv144_2
              replace hv144_2 := Option.some.inj (hv144_2.symm.trans hx144_2)
              injection hv144_2 with hva_ hvn_ hvc_
              rw [hva_] at ge144_2
              rw [hvc_] at ul144_2
              have HL144_2 := Aside0.mk (show Kd.V k69 69 _ w.heap.size _ _ ((rd_T29 l0 x6_1).f1) from Kd.V_mk ul144_2 ge144_2)
              clear hva_ hvn_ hvc_ ge144_2 ul144_2
              clear hcc144 hce144
              have HR144_2 := Aside0.mk hi144_2
              have HC144_2 := Aside0.mk hl144_2
              clear hi144_2 hl144_2
              replace p144 := eq_true p144
              replace q144 := eq_true q144
              have ea_ := Option.some.inj (hx139_2.symm.trans hx144_2)
              injection ea_ with ea_ en_ ec_
              subst ea_
              subst ec_
              clear en_
              go_wp2
              go_roundg k1
              case measure => have := HK1.out; omega
              case rel => exact ⟨(x5_1), (wrap64 (x6_1 + 1)), (by first | rfl | (simp; done) | (simp [*]; done)), H', ⟨by have := HK1.out; omega⟩, ⟨by (with_reducible repeat (first | apply Kd.V_alloc | apply Kd.V_drewN | apply Kd.V_drew)); exact HO_0.out⟩, ⟨by (with_reducible repeat (first | apply Kd.N_alloc | apply Kd.N_drewN | apply Kd.N_drew)); exact HO_5.out⟩, ⟨by repeat (first | (with_reducible first | exact HB.out | apply below_alloc | apply pw_below_drewN | apply below_drew1) | exact HB.out)⟩⟩
        · rw [if_neg c4] at H
          exact absurd H (by simp)
      · rw [if_neg c3] at H
        have c3b0 : decide (x6_1 < (l0.length : Int)) = false := decide_eq_false c3
        clear c3
        obtain rfl := Option.some.inj H
        go_wp2
        go_ret
        exact ⟨_, by first | rfl | (simp [errW_none, errW_some] <;> rfl) | (simp [*, errW_none, errW_some] <;> rfl), by (with_reducible repeat (first | apply Kd.N_alloc | apply Kd.N_drewN | apply Kd.N_drew)); exact HO_5.out, by repeat (first | (with_reducible first | exact HB.out | apply below_alloc | apply pw_below_drewN | apply below_drew1) | exact HB.out)⟩

/-! ### hayloftref10_Seen: function 15 -/
def hayloftref10_Seen.f (a0_0 : Int) (a0_1 : Int) (l0_2 : List (S69)) (a0_3 : Int) (a1 : Int) : Option (Bool) := if a0_0 > a1 then (some false) else (if a0_3 = 0 then (some true) else (some (decide (a1 < a0_3))))
set_option maxHeartbeats 8000000 in
set_option maxRecDepth 100000 in
theorem hayloftref10_Seen.calls (a0_0 : Int) (a0_1 : Int) (A0_2 : Option Addr) (c0_2 : Nat) (l0_2 : List (S69)) (a0_3 : Int) (a1 : Int) (r : Bool) (w : World) (hr0_2 : Kd.C k69 w A0_2 l0_2.length l0_2) (hc0_2 : l0_2.length ≤ c0_2) (h : hayloftref10_Seen.f a0_0 a0_1 l0_2 a0_3 a1 = some r) :
    Calls Try.prog 15 #[.agg #[.int .u64 a0_0, .int .u32 a0_1, .slice A0_2 l0_2.length c0_2, .int .u64 a0_3], .int .u64 a1] w fun e w' => e = .returned (.bool r) ∧ Below w.heap.size w w' := by
  have hu29 := Try.underlying29
  have HR0_2 := Aside0.mk hr0_2
  have HC0_2 := Aside0.mk hc0_2
  clear hr0_2 hc0_2
  have HB := Aside0.mk (Below.refl w.heap.size w)
  have H : (if a0_0 > a1 then (some false) else (if a0_3 = 0 then (some true) else (some (decide (a1 < a0_3))))) = some r := h
  clear h
  by_cases c3 : a0_0 > a1
  · rw [if_pos c3] at H
    have c3b0 : decide (a1 < a0_0) = true := decide_eq_true c3
    clear c3
    obtain rfl := Option.some.inj H
    go_enter Try.func15, Try.ntmps15
    go_wp2_with (first | ((with_reducible refine gate_dst (N := 2) rfl ?_); refine box_event ?hg (N := 2) ?hd (cs := #[.int .u64 a0_0, .int .u32 a0_1, .slice A0_2 l0_2.length c0_2, .int .u64 a0_3]) (t := 29) ?hr ?_; (case hd => rfl); (case hg => rfl); (case hr => first | (go_simp; done) | (go_simp; rfl)); intro gb149 hg w4 hbox hb; have n0_ := Aside0.mk (below_step (by repeat (first | (with_reducible first | exact HB.out | apply below_alloc | apply pw_below_drewN | apply below_drew1) | exact HB.out)) hb); have n1_ := Aside0.mk (hbox); have n2_ := Aside0.mk ((by rw [hg]; exact (below_size (by repeat (first | (with_reducible first | exact HB.out | apply below_alloc | apply pw_below_drewN | apply below_drew1) | exact HB.out))) : w.heap.size ≤ gb149)); have n3_ := Aside0.mk ((by rw [hg]; exact (below_size (by repeat (first | (with_reducible first | exact HB.out | apply below_alloc | apply pw_below_drewN | apply below_drew1) | exact HB.out))) : w.heap.size ≤ gb149)); clear HB; have HB := n0_; have BK149 := n1_; have GW149 := n2_; have GE149 := n3_; clear n0_ n1_ n2_ n3_; clear hb hbox hg; have hcz5_0 : w4.cell? ⟨gb149, 0, none⟩ = some (.int .u64 a0_0) := (blk_cell BK149.out 0).trans rfl; have hcz5_1 : w4.cell? ⟨gb149, 1, none⟩ = some (.int .u32 a0_1) := (blk_cell BK149.out 1).trans rfl; have hcz5_2 : w4.cell? ⟨gb149, 2, none⟩ = some (.slice A0_2 l0_2.length c0_2) := (blk_cell BK149.out 2).trans rfl; have hcz5_3 : w4.cell? ⟨gb149, 3, none⟩ = some (.int .u64 a0_3) := (blk_cell BK149.out 3).trans rfl; have hfz5_0 := blk_frozen BK149.out 0; have hfz5_1 := blk_frozen BK149.out 1; have hfz5_2 := blk_frozen BK149.out 2; have hfz5_3 := blk_frozen BK149.out 3))
    go_ret
    exact ⟨by first | rfl | (simp [errW_none, errW_some] <;> rfl) | (simp [*, errW_none, errW_some] <;> rfl), by repeat (first | (with_reducible first | exact HB.out | apply below_alloc | apply pw_below_drewN | apply below_drew1 | refine below_set ?_ GE149.out) | exact HB.out)⟩
  · rw [if_neg c3] at H
    have c3b0 : decide (a1 < a0_0) = false := decide_eq_false c3
    clear c3
    by_cases c6 : a0_3 = 0
    · rw [if_pos c6] at H
      have c6b0 : (a0_3 == 0) = true := beq_iff_eq.mpr c6
      have c6b1 : (a0_3 != 0) = false := bne_eq_false_iff_eq.mpr c6
      clear c6
      obtain rfl := Option.some.inj H
      go_enter Try.func15, Try.ntmps15
      go_wp2_with (first | ((with_reducible refine gate_dst (N := 2) rfl ?_); refine box_event ?hg (N := 2) ?hd (cs := #[.int .u64 a0_0, .int .u32 a0_1, .slice A0_2 l0_2.length c0_2, .int .u64 a0_3]) (t := 29) ?hr ?_; (case hd => rfl); (case hg => rfl); (case hr => first | (go_simp; done) | (go_simp; rfl)); intro gb149 hg w7 hbox hb; have n0_ := Aside0.mk (below_step (by repeat (first | (with_reducible first | exact HB.out | apply below_alloc | apply pw_below_drewN | apply below_drew1) | exact HB.out)) hb); have n1_ := Aside0.mk (hbox); have n2_ := Aside0.mk ((by rw [hg]; exact (below_size (by repeat (first | (with_reducible first | exact HB.out | apply below_alloc | apply pw_below_drewN | apply below_drew1) | exact HB.out))) : w.heap.size ≤ gb149)); have n3_ := Aside0.mk ((by rw [hg]; exact (below_size (by repeat (first | (with_reducible first | exact HB.out | apply below_alloc | apply pw_below_drewN | apply below_drew1) | exact HB.out))) : w.heap.size ≤ gb149)); clear HB; have HB := n0_; have BK149 := n1_; have GW149 := n2_; have GE149 := n3_; clear n0_ n1_ n2_ n3_; clear hb hbox hg; have hcz8_0 : w7.cell? ⟨gb149, 0, none⟩ = some (.int .u64 a0_0) := (blk_cell BK149.out 0).trans rfl; have hcz8_1 : w7.cell? ⟨gb149, 1, none⟩ = some (.int .u32 a0_1) := (blk_cell BK149.out 1).trans rfl; have hcz8_2 : w7.cell? ⟨gb149, 2, none⟩ = some (.slice A0_2 l0_2.length c0_2) := (blk_cell BK149.out 2).trans rfl; have hcz8_3 : w7.cell? ⟨gb149, 3, none⟩ = some (.int .u64 a0_3) := (blk_cell BK149.out 3).trans rfl; have hfz8_0 := blk_frozen BK149.out 0; have hfz8_1 := blk_frozen BK149.out 1; have hfz8_2 := blk_frozen BK149.out 2; have hfz8_3 := blk_frozen BK149.out 3))
      go_ret
      exact ⟨by first | rfl | (simp [errW_none, errW_some] <;> rfl) | (simp [*, errW_none, errW_some] <;> rfl), by repeat (first | (with_reducible first | exact HB.out | apply below_alloc | apply pw_below_drewN | apply below_drew1 | refine below_set ?_ GE149.out) | exact HB.out)⟩
    · rw [if_neg c6] at H
      have c6b0 : (a0_3 == 0) = false := beq_eq_false_iff_ne.mpr c6
      have c6b1 : (a0_3 != 0) = true := bne_iff_ne.mpr c6
      obtain rfl := Option.some.inj H
      go_enter Try.func15, Try.ntmps15
      go_wp2_with (first | ((with_reducible refine gate_dst (N := 2) rfl ?_); refine box_event ?hg (N := 2) ?hd (cs := #[.int .u64 a0_0, .int .u32 a0_1, .slice A0_2 l0_2.length c0_2, .int .u64 a0_3]) (t := 29) ?hr ?_; (case hd => rfl); (case hg => rfl); (case hr => first | (go_simp; done) | (go_simp; rfl)); intro gb149 hg w9 hbox hb; have n0_ := Aside0.mk (below_step (by repeat (first | (with_reducible first | exact HB.out | apply below_alloc | apply pw_below_drewN | apply below_drew1) | exact HB.out)) hb); have n1_ := Aside0.mk (hbox); have n2_ := Aside0.mk ((by rw [hg]; exact (below_size (by repeat (first | (with_reducible first | exact HB.out | apply below_alloc | apply pw_below_drewN | apply below_drew1) | exact HB.out))) : w.heap.size ≤ gb149)); have n3_ := Aside0.mk ((by rw [hg]; exact (below_size (by repeat (first | (with_reducible first | exact HB.out | apply below_alloc | apply pw_below_drewN | apply below_drew1) | exact HB.out))) : w.heap.size ≤ gb149)); clear HB; have HB := n0_; have BK149 := n1_; have GW149 := n2_; have GE149 := n3_; clear n0_ n1_ n2_ n3_; clear hb hbox hg; have hcz10_0 : w9.cell? ⟨gb149, 0, none⟩ = some (.int .u64 a0_0) := (blk_cell BK149.out 0).trans rfl; have hcz10_1 : w9.cell? ⟨gb149, 1, none⟩ = some (.int .u32 a0_1) := (blk_cell BK149.out 1).trans rfl; have hcz10_2 : w9.cell? ⟨gb149, 2, none⟩ = some (.slice A0_2 l0_2.length c0_2) := (blk_cell BK149.out 2).trans rfl; have hcz10_3 : w9.cell? ⟨gb149, 3, none⟩ = some (.int .u64 a0_3) := (blk_cell BK149.out 3).trans rfl; have hfz10_0 := blk_frozen BK149.out 0; have hfz10_1 := blk_frozen BK149.out 1; have hfz10_2 := blk_frozen BK149.out 2; have hfz10_3 := blk_frozen BK149.out 3))
      go_ret
      exact ⟨by first | rfl | (simp [errW_none, errW_some] <;> rfl) | (simp [*, errW_none, errW_some] <;> rfl), by repeat (first | (with_reducible first | exact HB.out | apply below_alloc | apply pw_below_drewN | apply below_drew1 | refine below_set ?_ GE149.out) | exact HB.out)⟩

/-! ### hayloftref10_As: function 18 -/
def hayloftref10_As.f (a0_0 : Int) (a0_1 : Int) (l0_2 : List (S69)) (a0_3 : Int) (a1 : Int) : Option (Int × Int × (List (S69)) × Int) := if a0_3 > a1 then (some (a0_0, a0_1, l0_2, 0)) else (some (a0_0, a0_1, l0_2, a0_3))
set_option maxHeartbeats 8000000 in
set_option maxRecDepth 100000 in
theorem hayloftref10_As.calls (a0_0 : Int) (a0_1 : Int) (P0_2_ : Nat → Prop) (u9000_ : Value) (l0_2 : List (S69)) (a0_3 : Int) (a1 : Int) (r1 : Int) (r2 : Int) (r3 : List (S69)) (r4 : Int) (w0 w : World) (hB : Below w0.heap.size w0 w) (ho0_2 : Kd.R k69 69 w w0.heap.size P0_2_ u9000_ l0_2) (h : hayloftref10_As.f a0_0 a0_1 l0_2 a0_3 a1 = some (r1, r2, r3, r4)) :
    Calls Try.prog 18 #[.agg #[.int .u64 a0_0, .int .u32 a0_1, u9000_, .int .u64 a0_3], .int .u64 a1] w fun e w' => ∃ v2_ : Value, e = .returned (.agg #[.int .u64 r1, .int .u32 r2, v2_, .int .u64 r4]) ∧ Kd.R k69 69 w' w0.heap.size (fun k_ => (P0_2_ k_ ∨ w.heap.size ≤ k_)) v2_ r3 ∧ Below w0.heap.size w0 w' ∧ Kept w w' (fun k_ => P0_2_ k_) := by
  have hu29 := Try.underlying29
  have HO0_2 := Aside0.mk (show Kd.R k69 69 w w0.heap.size (fun k_ => (P0_2_ k_ ∨ w.heap.size ≤ k_)) u9000_ l0_2 from Kd.R_mono ho0_2 (fun k_ hk => (.inl hk)))
  have HK := Aside0.mk (Kept.refl w (fun k_ => P0_2_ k_))
  have HW0 := Aside0.mk hB.size
  have HB := Aside0.mk hB
  clear hB
  have H : (if a0_3 > a1 then (some (a0_0, a0_1, l0_2, 0)) else (some (a0_0, a0_1, l0_2, a0_3))) = some (r1, r2, r3, r4) := h
  clear h
  by_cases c3 : a0_3 > a1
  · rw [if_pos c3] at H
    have c3b0 : decide (a1 < a0_3) = true := decide_eq_true c3
    clear c3
    simp only [Option.some.injEq, Prod.mk.injEq] at H
    obtain ⟨rfl, rfl, rfl, rfl⟩ := H
    obtain ⟨Ao4, co4, eo4⟩ := Kd.R_slice HO0_2.out
    subst eo4
    go_enter Try.func18, Try.ntmps18
    go_wp2_with (first | ((with_reducible refine gate_dst (N := 2) rfl ?_); refine box_event ?hg (N := 2) ?hd (cs := #[.int .u64 a0_0, .int .u32 a0_1, .slice Ao4 l0_2.length co4, .int .u64 a0_3]) (t := 29) ?hr ?_; (case hd => rfl); (case hg => rfl); (case hr => first | (go_simp; done) | (go_simp; rfl)); intro gb150 hg w5 hbox hb; have n0_ := Aside0.mk (Kd.R_below (by (with_reducible repeat (first | apply Kd.R_alloc | apply Kd.R_drewN | apply Kd.R_drew)); exact HO0_2.out) hb); have n1_ := Aside0.mk (Kept.below (S := (fun k_ => P0_2_ k_)) (by repeat (first | (with_reducible first | exact HK.out | apply Kept.alloc | apply Kept.drewN | apply Kept.drew) | exact HK.out)) hb); have n2_ := Aside0.mk (below_step (by repeat (first | (with_reducible first | exact HB.out | apply below_alloc | apply pw_below_drewN | apply below_drew1) | exact HB.out)) hb); have n3_ := Aside0.mk (hbox); have n4_ := Aside0.mk ((by rw [hg]; exact (by first | exact HK.out.1 | exact (show Kept w _ (fun k_ => P0_2_ k_) from by repeat (first | (with_reducible first | exact HK.out | apply Kept.alloc | apply Kept.drewN | apply Kept.drew) | exact HK.out)).1) : w.heap.size ≤ gb150)); have n5_ := Aside0.mk ((by rw [hg]; exact (below_size (by repeat (first | (with_reducible first | exact HB.out | apply below_alloc | apply pw_below_drewN | apply below_drew1) | exact HB.out))) : w0.heap.size ≤ gb150)); clear HO0_2; clear HK; clear HB; have HO0_2 := n0_; have HK := n1_; have HB := n2_; have BK150 := n3_; have GW150 := n4_; have GE150 := n5_; clear n0_ n1_ n2_ n3_ n4_ n5_; clear hb hbox hg) | ((with_reducible refine gate_dst (N := 4) rfl ?_); refine box_event ?hg (N := 4) ?hd (cs := #[.int .u64 0, .int .u32 0, .slice none 0 0, .int .u64 0]) (t := 29) ?hr ?_; (case hd => rfl); (case hg => rfl); (case hr => first | (go_simp; done) | (go_simp; rfl)); intro gb151 hg w6 hbox hb; have n0_ := Aside0.mk (Kd.R_below (by (with_reducible repeat (first | apply Kd.R_alloc | apply Kd.R_drewN | apply Kd.R_drew)); exact HO0_2.out) hb); have n1_ := Aside0.mk (blk_below (g := gb150) (o := .cells #[.int .u64 a0_0, .int .u32 a0_1, .slice Ao4 l0_2.length co4, .int .u64 a0_3] 29 (0, 0)) (by (with_reducible repeat (first | refine blk_drewN ?_ _ | refine blk_drew ?_ | refine blk_alloc ?_ _)); exact BK150.out) hb); have n2_ := Aside0.mk (Kept.below (S := (fun k_ => P0_2_ k_)) (by repeat (first | (with_reducible first | exact HK.out | apply Kept.alloc | apply Kept.drewN | apply Kept.drew | refine Kept.setCell ?_ (.inr GW150.out) _) | exact HK.out)) hb); have n3_ := Aside0.mk (below_step (by repeat (first | (with_reducible first | exact HB.out | apply below_alloc | apply pw_below_drewN | apply below_drew1 | refine below_set ?_ GE150.out) | exact HB.out)) hb); have n4_ := Aside0.mk (hbox); have n5_ := Aside0.mk ((by rw [hg]; exact (by first | exact HK.out.1 | exact (show Kept w _ (fun k_ => P0_2_ k_) from by repeat (first | (with_reducible first | exact HK.out | apply Kept.alloc | apply Kept.drewN | apply Kept.drew | refine Kept.setCell ?_ (.inr GW150.out) _) | exact HK.out)).1) : w.heap.size ≤ gb151)); have n6_ := Aside0.mk ((by rw [hg]; exact (below_size (by repeat (first | (with_reducible first | exact HB.out | apply below_alloc | apply pw_below_drewN | apply below_drew1 | refine below_set ?_ GE150.out) | exact HB.out))) : w0.heap.size ≤ gb151)); have n7_ := Aside0.mk ((by rw [hg]; exact Nat.ne_of_lt (blk_lt (g := gb150) (o := .cells #[.int .u64 a0_0, .int .u32 a0_1, .slice Ao4 l0_2.length co4, .int .u64 a0_3] 29 (0, 0)) (by (with_reducible repeat (first | refine blk_drewN ?_ _ | refine blk_drew ?_ | refine blk_alloc ?_ _)); exact BK150.out)) : gb150 ≠ gb151)); have n8_ := Aside0.mk ((by rw [hg]; exact Nat.ne_of_gt (blk_lt (g := gb150) (o := .cells #[.int .u64 a0_0, .int .u32 a0_1, .slice Ao4 l0_2.length co4, .int .u64 a0_3] 29 (0, 0)) (by (with_reducible repeat (first | refine blk_drewN ?_ _ | refine blk_drew ?_ | refine blk_alloc ?_ _)); exact BK150.out)) : gb151 ≠ gb150)); clear HO0_2; clear BK150; clear HK; clear HB; have HO0_2 := n0_; have BK150 := n1_; have HK := n2_; have HB := n3_; have BK151 := n4_; have GW151 := n5_; have GE151 := n6_; have NB150_151 := n7_; have NB151_150 := n8_; clear n0_ n1_ n2_ n3_ n4_ n5_ n6_ n7_ n8_; clear hb hbox hg; have hnb7 := NB150_151.out; have hnc7 := NB151_150.out; have hcz8_0 : w6.cell? ⟨gb150, 0, none⟩ = some (.int .u64 a0_0) := (blk_cell BK150.out 0).trans rfl; have hcz8_1 : w6.cell? ⟨gb150, 1, none⟩ = some (.int .u32 a0_1) := (blk_cell BK150.out 1).trans rfl; have hcz8_2 : w6.cell? ⟨gb150, 2, none⟩ = some (.slice Ao4 l0_2.length co4) := (blk_cell BK150.out 2).trans rfl; have hcz8_3 : w6.cell? ⟨gb150, 3, none⟩ = some (.int .u64 a0_3) := (blk_cell BK150.out 3).trans rfl; have hfz8_0 := blk_frozen BK150.out 0; have hfz8_1 := blk_frozen BK150.out 1; have hfz8_2 := blk_frozen BK150.out 2; have hfz8_3 := blk_frozen BK150.out 3; have hcz9_0 : w6.cell? ⟨gb151, 0, none⟩ = some (.int .u64 0) := (blk_cell BK151.out 0).trans rfl; have hcz9_1 : w6.cell? ⟨gb151, 1, none⟩ = some (.int .u32 0) := (blk_cell BK151.out 1).trans rfl; have hcz9_2 : w6.cell? ⟨gb151, 2, none⟩ = some (.slice none 0 0) := (blk_cell BK151.out 2).trans rfl; have hcz9_3 : w6.cell? ⟨gb151, 3, none⟩ = some (.int .u64 0) := (blk_cell BK151.out 3).trans rfl; have hfz9_0 := blk_frozen BK151.out 0; have hfz9_1 := blk_frozen BK151.out 1; have hfz9_2 := blk_frozen BK151.out 2; have hfz9_3 := blk_frozen BK151.out 3))
    refine bodyPost_ret (results_cell_row rfl _ _ gb151 29 #[.int .u64 a0_0, .int .u32 a0_1, .slice Ao4 l0_2.length co4, .int .u64 0] (0, 0) _ rfl (by (with_reducible repeat (first | refine blk_drewN ?_ _ | refine blk_drew ?_ | refine blk_alloc ?_ _)); refine blk_put (cs := #[.int .u64 a0_0, .int .u32 a0_1, .slice Ao4 l0_2.length co4, .int .u64 0]) ?_ 3 _ rfl; (with_reducible repeat (first | refine blk_drewN ?_ _ | refine blk_drew ?_ | refine blk_alloc ?_ _)); refine blk_put (cs := #[.int .u64 a0_0, .int .u32 a0_1, .slice none 0 0, .int .u64 0]) ?_ 2 _ rfl; (with_reducible repeat (first | refine blk_drewN ?_ _ | refine blk_drew ?_ | refine blk_alloc ?_ _)); refine blk_put (cs := #[.int .u64 a0_0, .int .u32 0, .slice none 0 0, .int .u64 0]) ?_ 1 _ rfl; (with_reducible repeat (first | refine blk_drewN ?_ _ | refine blk_drew ?_ | refine blk_alloc ?_ _)); refine blk_put (cs := #[.int .u64 0, .int .u32 0, .slice none 0 0, .int .u64 0]) ?_ 0 _ rfl; (with_reducible repeat (first | refine blk_drewN ?_ _ | refine blk_drew ?_ | refine blk_alloc ?_ _)); refine blk_far ?_ NB151_150.out _; (with_reducible repeat (first | refine blk_drewN ?_ _ | refine blk_drew ?_ | refine blk_alloc ?_ _)); exact BK151.out) Try.underlying29 rfl (by kernel_rfl)) rfl ?_
    exact ⟨_, by first | rfl | (simp [errW_none, errW_some] <;> rfl) | (simp [*, errW_none, errW_some] <;> rfl), by (with_reducible repeat (first | apply Kd.R_alloc | apply Kd.R_drewN | apply Kd.R_drew)); exact Kd.R_mono (Kd.R_far (p := ⟨gb151, 3, none⟩) (Kd.R_far (p := ⟨gb151, 2, none⟩) (Kd.R_far (p := ⟨gb151, 1, none⟩) (Kd.R_far (p := ⟨gb151, 0, none⟩) (Kd.R_far (p := ⟨gb150, 3, none⟩) (Kd.R_types (Kd.R_types HO0_2.out BK150.out (by decide)) BK151.out (by decide)) (fun _ hk => hk.1.2) (.int .u64 0)) (fun _ hk => hk.2) (.int .u64 a0_0)) (fun _ hk => hk.2) (.int .u32 a0_1)) (fun _ hk => hk.2) (.slice Ao4 l0_2.length co4)) (fun _ hk => hk.2) (.int .u64 0)) (fun _ hk => hk.1.1), by repeat (first | (with_reducible first | exact HB.out | apply below_alloc | apply pw_below_drewN | apply below_drew1 | refine below_set ?_ GE150.out | refine below_set ?_ GE151.out) | exact HB.out), by repeat (first | (with_reducible first | exact HK.out | apply Kept.alloc | apply Kept.drewN | apply Kept.drew | refine Kept.setCell ?_ (.inr GW150.out) _ | refine Kept.setCell ?_ (.inr GW151.out) _) | exact HK.out)⟩
  · rw [if_neg c3] at H
    have c3b0 : decide (a1 < a0_3) = false := decide_eq_false c3
    clear c3
    simp only [Option.some.injEq, Prod.mk.injEq] at H
    obtain ⟨rfl, rfl, rfl, rfl⟩ := H
    obtain ⟨Ao10, co10, eo10⟩ := Kd.R_slice HO0_2.out
    subst eo10
    go_enter Try.func18, Try.ntmps18
    go_wp2_with (first | ((with_reducible refine gate_dst (N := 2) rfl ?_); refine box_event ?hg (N := 2) ?hd (cs := #[.int .u64 a0_0, .int .u32 a0_1, .slice Ao10 l0_2.length co10, .int .u64 a0_3]) (t := 29) ?hr ?_; (case hd => rfl); (case hg => rfl); (case hr => first | (go_simp; done) | (go_simp; rfl)); intro gb150 hg w11 hbox hb; have n0_ := Aside0.mk (Kd.R_below (by (with_reducible repeat (first | apply Kd.R_alloc | apply Kd.R_drewN | apply Kd.R_drew)); exact HO0_2.out) hb); have n1_ := Aside0.mk (Kept.below (S := (fun k_ => P0_2_ k_)) (by repeat (first | (with_reducible first | exact HK.out | apply Kept.alloc | apply Kept.drewN | apply Kept.drew) | exact HK.out)) hb); have n2_ := Aside0.mk (below_step (by repeat (first | (with_reducible first | exact HB.out | apply below_alloc | apply pw_below_drewN | apply below_drew1) | exact HB.out)) hb); have n3_ := Aside0.mk (hbox); have n4_ := Aside0.mk ((by rw [hg]; exact (by first | exact HK.out.1 | exact (show Kept w _ (fun k_ => P0_2_ k_) from by repeat (first | (with_reducible first | exact HK.out | apply Kept.alloc | apply Kept.drewN | apply Kept.drew) | exact HK.out)).1) : w.heap.size ≤ gb150)); have n5_ := Aside0.mk ((by rw [hg]; exact (below_size (by repeat (first | (with_reducible first | exact HB.out | apply below_alloc | apply pw_below_drewN | apply below_drew1) | exact HB.out))) : w0.heap.size ≤ gb150)); clear HO0_2; clear HK; clear HB; have HO0_2 := n0_; have HK := n1_; have HB := n2_; have BK150 := n3_; have GW150 := n4_; have GE150 := n5_; clear n0_ n1_ n2_ n3_ n4_ n5_; clear hb hbox hg) | ((with_reducible refine gate_dst (N := 4) rfl ?_); refine box_event ?hg (N := 4) ?hd (cs := #[.int .u64 0, .int .u32 0, .slice none 0 0, .int .u64 0]) (t := 29) ?hr ?_; (case hd => rfl); (case hg => rfl); (case hr => first | (go_simp; done) | (go_simp; rfl)); intro gb151 hg w12 hbox hb; have n0_ := Aside0.mk (Kd.R_below (by (with_reducible repeat (first | apply Kd.R_alloc | apply Kd.R_drewN | apply Kd.R_drew)); exact HO0_2.out) hb); have n1_ := Aside0.mk (blk_below (g := gb150) (o := .cells #[.int .u64 a0_0, .int .u32 a0_1, .slice Ao10 l0_2.length co10, .int .u64 a0_3] 29 (0, 0)) (by (with_reducible repeat (first | refine blk_drewN ?_ _ | refine blk_drew ?_ | refine blk_alloc ?_ _)); exact BK150.out) hb); have n2_ := Aside0.mk (Kept.below (S := (fun k_ => P0_2_ k_)) (by repeat (first | (with_reducible first | exact HK.out | apply Kept.alloc | apply Kept.drewN | apply Kept.drew | refine Kept.setCell ?_ (.inr GW150.out) _) | exact HK.out)) hb); have n3_ := Aside0.mk (below_step (by repeat (first | (with_reducible first | exact HB.out | apply below_alloc | apply pw_below_drewN | apply below_drew1 | refine below_set ?_ GE150.out) | exact HB.out)) hb); have n4_ := Aside0.mk (hbox); have n5_ := Aside0.mk ((by rw [hg]; exact (by first | exact HK.out.1 | exact (show Kept w _ (fun k_ => P0_2_ k_) from by repeat (first | (with_reducible first | exact HK.out | apply Kept.alloc | apply Kept.drewN | apply Kept.drew | refine Kept.setCell ?_ (.inr GW150.out) _) | exact HK.out)).1) : w.heap.size ≤ gb151)); have n6_ := Aside0.mk ((by rw [hg]; exact (below_size (by repeat (first | (with_reducible first | exact HB.out | apply below_alloc | apply pw_below_drewN | apply below_drew1 | refine below_set ?_ GE150.out) | exact HB.out))) : w0.heap.size ≤ gb151)); have n7_ := Aside0.mk ((by rw [hg]; exact Nat.ne_of_lt (blk_lt (g := gb150) (o := .cells #[.int .u64 a0_0, .int .u32 a0_1, .slice Ao10 l0_2.length co10, .int .u64 a0_3] 29 (0, 0)) (by (with_reducible repeat (first | refine blk_drewN ?_ _ | refine blk_drew ?_ | refine blk_alloc ?_ _)); exact BK150.out)) : gb150 ≠ gb151)); have n8_ := Aside0.mk ((by rw [hg]; exact Nat.ne_of_gt (blk_lt (g := gb150) (o := .cells #[.int .u64 a0_0, .int .u32 a0_1, .slice Ao10 l0_2.length co10, .int .u64 a0_3] 29 (0, 0)) (by (with_reducible repeat (first | refine blk_drewN ?_ _ | refine blk_drew ?_ | refine blk_alloc ?_ _)); exact BK150.out)) : gb151 ≠ gb150)); clear HO0_2; clear BK150; clear HK; clear HB; have HO0_2 := n0_; have BK150 := n1_; have HK := n2_; have HB := n3_; have BK151 := n4_; have GW151 := n5_; have GE151 := n6_; have NB150_151 := n7_; have NB151_150 := n8_; clear n0_ n1_ n2_ n3_ n4_ n5_ n6_ n7_ n8_; clear hb hbox hg; have hnb13 := NB150_151.out; have hnc13 := NB151_150.out; have hcz14_0 : w12.cell? ⟨gb150, 0, none⟩ = some (.int .u64 a0_0) := (blk_cell BK150.out 0).trans rfl; have hcz14_1 : w12.cell? ⟨gb150, 1, none⟩ = some (.int .u32 a0_1) := (blk_cell BK150.out 1).trans rfl; have hcz14_2 : w12.cell? ⟨gb150, 2, none⟩ = some (.slice Ao10 l0_2.length co10) := (blk_cell BK150.out 2).trans rfl; have hcz14_3 : w12.cell? ⟨gb150, 3, none⟩ = some (.int .u64 a0_3) := (blk_cell BK150.out 3).trans rfl; have hfz14_0 := blk_frozen BK150.out 0; have hfz14_1 := blk_frozen BK150.out 1; have hfz14_2 := blk_frozen BK150.out 2; have hfz14_3 := blk_frozen BK150.out 3; have hcz15_0 : w12.cell? ⟨gb151, 0, none⟩ = some (.int .u64 0) := (blk_cell BK151.out 0).trans rfl; have hcz15_1 : w12.cell? ⟨gb151, 1, none⟩ = some (.int .u32 0) := (blk_cell BK151.out 1).trans rfl; have hcz15_2 : w12.cell? ⟨gb151, 2, none⟩ = some (.slice none 0 0) := (blk_cell BK151.out 2).trans rfl; have hcz15_3 : w12.cell? ⟨gb151, 3, none⟩ = some (.int .u64 0) := (blk_cell BK151.out 3).trans rfl; have hfz15_0 := blk_frozen BK151.out 0; have hfz15_1 := blk_frozen BK151.out 1; have hfz15_2 := blk_frozen BK151.out 2; have hfz15_3 := blk_frozen BK151.out 3))
    refine bodyPost_ret (results_cell_row rfl _ _ gb151 29 #[.int .u64 a0_0, .int .u32 a0_1, .slice Ao10 l0_2.length co10, .int .u64 a0_3] (0, 0) _ rfl (by (with_reducible repeat (first | refine blk_drewN ?_ _ | refine blk_drew ?_ | refine blk_alloc ?_ _)); refine blk_put (cs := #[.int .u64 a0_0, .int .u32 a0_1, .slice Ao10 l0_2.length co10, .int .u64 0]) ?_ 3 _ rfl; (with_reducible repeat (first | refine blk_drewN ?_ _ | refine blk_drew ?_ | refine blk_alloc ?_ _)); refine blk_put (cs := #[.int .u64 a0_0, .int .u32 a0_1, .slice none 0 0, .int .u64 0]) ?_ 2 _ rfl; (with_reducible repeat (first | refine blk_drewN ?_ _ | refine blk_drew ?_ | refine blk_alloc ?_ _)); refine blk_put (cs := #[.int .u64 a0_0, .int .u32 0, .slice none 0 0, .int .u64 0]) ?_ 1 _ rfl; (with_reducible repeat (first | refine blk_drewN ?_ _ | refine blk_drew ?_ | refine blk_alloc ?_ _)); refine blk_put (cs := #[.int .u64 0, .int .u32 0, .slice none 0 0, .int .u64 0]) ?_ 0 _ rfl; (with_reducible repeat (first | refine blk_drewN ?_ _ | refine blk_drew ?_ | refine blk_alloc ?_ _)); exact BK151.out) Try.underlying29 rfl (by kernel_rfl)) rfl ?_
    exact ⟨_, by first | rfl | (simp [errW_none, errW_some] <;> rfl) | (simp [*, errW_none, errW_some] <;> rfl), by (with_reducible repeat (first | apply Kd.R_alloc | apply Kd.R_drewN | apply Kd.R_drew)); exact Kd.R_mono (Kd.R_far (p := ⟨gb151, 3, none⟩) (Kd.R_far (p := ⟨gb151, 2, none⟩) (Kd.R_far (p := ⟨gb151, 1, none⟩) (Kd.R_far (p := ⟨gb151, 0, none⟩) (Kd.R_types HO0_2.out BK151.out (by decide)) (fun _ hk => hk.2) (.int .u64 a0_0)) (fun _ hk => hk.2) (.int .u32 a0_1)) (fun _ hk => hk.2) (.slice Ao10 l0_2.length co10)) (fun _ hk => hk.2) (.int .u64 a0_3)) (fun _ hk => hk.1), by repeat (first | (with_reducible first | exact HB.out | apply below_alloc | apply pw_below_drewN | apply below_drew1 | refine below_set ?_ GE150.out | refine below_set ?_ GE151.out) | exact HB.out), by repeat (first | (with_reducible first | exact HK.out | apply Kept.alloc | apply Kept.drewN | apply Kept.drew | refine Kept.setCell ?_ (.inr GW150.out) _ | refine Kept.setCell ?_ (.inr GW151.out) _) | exact HK.out)⟩

-- NOT PRINTED: function 29 (hayloftref10_At)

/-! ### wos_Seen: function 14 -/
def wos_Seen.f (a0_0 : Int) (a0_1 : Int) (l0_2 : List (S69)) (a0_3 : Int) (a1 : Int) : Option (Bool) := if a0_0 ≤ a1 then (if a0_3 = 0 then (some true) else (some (decide (a0_3 > a1)))) else (some false)
set_option maxHeartbeats 8000000 in
set_option maxRecDepth 100000 in
theorem wos_Seen.calls (a0_0 : Int) (a0_1 : Int) (A0_2 : Option Addr) (c0_2 : Nat) (l0_2 : List (S69)) (a0_3 : Int) (a1 : Int) (r : Bool) (w : World) (hr0_2 : Kd.C k69 w A0_2 l0_2.length l0_2) (hc0_2 : l0_2.length ≤ c0_2) (h : wos_Seen.f a0_0 a0_1 l0_2 a0_3 a1 = some r) :
    Calls Try.prog 14 #[.agg #[.int .u64 a0_0, .int .u32 a0_1, .slice A0_2 l0_2.length c0_2, .int .u64 a0_3], .int .u64 a1] w fun e w' => e = .returned (.bool r) ∧ Below w.heap.size w w' := by
  have hu29 := Try.underlying29
  have HR0_2 := Aside0.mk hr0_2
  have HC0_2 := Aside0.mk hc0_2
  clear hr0_2 hc0_2
  have HB := Aside0.mk (Below.refl w.heap.size w)
  have H : (if a0_0 ≤ a1 then (if a0_3 = 0 then (some true) else (some (decide (a0_3 > a1)))) else (some false)) = some r := h
  clear h
  by_cases c3 : a0_0 ≤ a1
  · rw [if_pos c3] at H
    have c3b0 : decide (a0_0 ≤ a1) = true := decide_eq_true c3
    clear c3
    by_cases c4 : a0_3 = 0
    · rw [if_pos c4] at H
      have c4b0 : (a0_3 == 0) = true := beq_iff_eq.mpr c4
      have c4b1 : (a0_3 != 0) = false := bne_eq_false_iff_eq.mpr c4
      clear c4
      obtain rfl := Option.some.inj H
      go_enter Try.func14, Try.ntmps14
      go_wp2_with (first | ((with_reducible refine gate_dst (N := 2) rfl ?_); refine box_event ?hg (N := 2) ?hd (cs := #[.int .u64 a0_0, .int .u32 a0_1, .slice A0_2 l0_2.length c0_2, .int .u64 a0_3]) (t := 29) ?hr ?_; (case hd => rfl); (case hg => rfl); (case hr => first | (go_simp; done) | (go_simp; rfl)); intro gb155 hg w5 hbox hb; have n0_ := Aside0.mk (below_step (by repeat (first | (with_reducible first | exact HB.out | apply below_alloc | apply pw_below_drewN | apply below_drew1) | exact HB.out)) hb); have n1_ := Aside0.mk (hbox); have n2_ := Aside0.mk ((by rw [hg]; exact (below_size (by repeat (first | (with_reducible first | exact HB.out | apply below_alloc | apply pw_below_drewN | apply below_drew1) | exact HB.out))) : w.heap.size ≤ gb155)); have n3_ := Aside0.mk ((by rw [hg]; exact (below_size (by repeat (first | (with_reducible first | exact HB.out | apply below_alloc | apply pw_below_drewN | apply below_drew1) | exact HB.out))) : w.heap.size ≤ gb155)); clear HB; have HB := n0_; have BK155 := n1_; have GW155 := n2_; have GE155 := n3_; clear n0_ n1_ n2_ n3_; clear hb hbox hg; have hcz6_0 : w5.cell? ⟨gb155, 0, none⟩ = some (.int .u64 a0_0) := (blk_cell BK155.out 0).trans rfl; have hcz6_1 : w5.cell? ⟨gb155, 1, none⟩ = some (.int .u32 a0_1) := (blk_cell BK155.out 1).trans rfl; have hcz6_2 : w5.cell? ⟨gb155, 2, none⟩ = some (.slice A0_2 l0_2.length c0_2) := (blk_cell BK155.out 2).trans rfl; have hcz6_3 : w5.cell? ⟨gb155, 3, none⟩ = some (.int .u64 a0_3) := (blk_cell BK155.out 3).trans rfl; have hfz6_0 := blk_frozen BK155.out 0; have hfz6_1 := blk_frozen BK155.out 1; have hfz6_2 := blk_frozen BK155.out 2; have hfz6_3 := blk_frozen BK155.out 3))
      go_ret
      exact ⟨by first | rfl | (simp [errW_none, errW_some] <;> rfl) | (simp [*, errW_none, errW_some] <;> rfl), by repeat (first | (with_reducible first | exact HB.out | apply below_alloc | apply pw_below_drewN | apply below_drew1 | refine below_set ?_ GE155.out) | exact HB.out)⟩
    · rw [if_neg c4] at H
      have c4b0 : (a0_3 == 0) = false := beq_eq_false_iff_ne.mpr c4
      have c4b1 : (a0_3 != 0) = true := bne_iff_ne.mpr c4
      obtain rfl := Option.some.inj H
      go_enter Try.func14, Try.ntmps14
      go_wp2_with (first | ((with_reducible refine gate_dst (N := 2) rfl ?_); refine box_event ?hg (N := 2) ?hd (cs := #[.int .u64 a0_0, .int .u32 a0_1, .slice A0_2 l0_2.length c0_2, .int .u64 a0_3]) (t := 29) ?hr ?_; (case hd => rfl); (case hg => rfl); (case hr => first | (go_simp; done) | (go_simp; rfl)); intro gb155 hg w7 hbox hb; have n0_ := Aside0.mk (below_step (by repeat (first | (with_reducible first | exact HB.out | apply below_alloc | apply pw_below_drewN | apply below_drew1) | exact HB.out)) hb); have n1_ := Aside0.mk (hbox); have n2_ := Aside0.mk ((by rw [hg]; exact (below_size (by repeat (first | (with_reducible first | exact HB.out | apply below_alloc | apply pw_below_drewN | apply below_drew1) | exact HB.out))) : w.heap.size ≤ gb155)); have n3_ := Aside0.mk ((by rw [hg]; exact (below_size (by repeat (first | (with_reducible first | exact HB.out | apply below_alloc | apply pw_below_drewN | apply below_drew1) | exact HB.out))) : w.heap.size ≤ gb155)); clear HB; have HB := n0_; have BK155 := n1_; have GW155 := n2_; have GE155 := n3_; clear n0_ n1_ n2_ n3_; clear hb hbox hg; have hcz8_0 : w7.cell? ⟨gb155, 0, none⟩ = some (.int .u64 a0_0) := (blk_cell BK155.out 0).trans rfl; have hcz8_1 : w7.cell? ⟨gb155, 1, none⟩ = some (.int .u32 a0_1) := (blk_cell BK155.out 1).trans rfl; have hcz8_2 : w7.cell? ⟨gb155, 2, none⟩ = some (.slice A0_2 l0_2.length c0_2) := (blk_cell BK155.out 2).trans rfl; have hcz8_3 : w7.cell? ⟨gb155, 3, none⟩ = some (.int .u64 a0_3) := (blk_cell BK155.out 3).trans rfl; have hfz8_0 := blk_frozen BK155.out 0; have hfz8_1 := blk_frozen BK155.out 1; have hfz8_2 := blk_frozen BK155.out 2; have hfz8_3 := blk_frozen BK155.out 3))
      go_ret
      exact ⟨by first | rfl | (simp [errW_none, errW_some] <;> rfl) | (simp [*, errW_none, errW_some] <;> rfl), by repeat (first | (with_reducible first | exact HB.out | apply below_alloc | apply pw_below_drewN | apply below_drew1 | refine below_set ?_ GE155.out) | exact HB.out)⟩
  · rw [if_neg c3] at H
    have c3b0 : decide (a0_0 ≤ a1) = false := decide_eq_false c3
    clear c3
    obtain rfl := Option.some.inj H
    go_enter Try.func14, Try.ntmps14
    go_wp2_with (first | ((with_reducible refine gate_dst (N := 2) rfl ?_); refine box_event ?hg (N := 2) ?hd (cs := #[.int .u64 a0_0, .int .u32 a0_1, .slice A0_2 l0_2.length c0_2, .int .u64 a0_3]) (t := 29) ?hr ?_; (case hd => rfl); (case hg => rfl); (case hr => first | (go_simp; done) | (go_simp; rfl)); intro gb155 hg w9 hbox hb; have n0_ := Aside0.mk (below_step (by repeat (first | (with_reducible first | exact HB.out | apply below_alloc | apply pw_below_drewN | apply below_drew1) | exact HB.out)) hb); have n1_ := Aside0.mk (hbox); have n2_ := Aside0.mk ((by rw [hg]; exact (below_size (by repeat (first | (with_reducible first | exact HB.out | apply below_alloc | apply pw_below_drewN | apply below_drew1) | exact HB.out))) : w.heap.size ≤ gb155)); have n3_ := Aside0.mk ((by rw [hg]; exact (below_size (by repeat (first | (with_reducible first | exact HB.out | apply below_alloc | apply pw_below_drewN | apply below_drew1) | exact HB.out))) : w.heap.size ≤ gb155)); clear HB; have HB := n0_; have BK155 := n1_; have GW155 := n2_; have GE155 := n3_; clear n0_ n1_ n2_ n3_; clear hb hbox hg; have hcz10_0 : w9.cell? ⟨gb155, 0, none⟩ = some (.int .u64 a0_0) := (blk_cell BK155.out 0).trans rfl; have hcz10_1 : w9.cell? ⟨gb155, 1, none⟩ = some (.int .u32 a0_1) := (blk_cell BK155.out 1).trans rfl; have hcz10_2 : w9.cell? ⟨gb155, 2, none⟩ = some (.slice A0_2 l0_2.length c0_2) := (blk_cell BK155.out 2).trans rfl; have hcz10_3 : w9.cell? ⟨gb155, 3, none⟩ = some (.int .u64 a0_3) := (blk_cell BK155.out 3).trans rfl; have hfz10_0 := blk_frozen BK155.out 0; have hfz10_1 := blk_frozen BK155.out 1; have hfz10_2 := blk_frozen BK155.out 2; have hfz10_3 := blk_frozen BK155.out 3))
    go_ret
    exact ⟨by first | rfl | (simp [errW_none, errW_some] <;> rfl) | (simp [*, errW_none, errW_some] <;> rfl), by repeat (first | (with_reducible first | exact HB.out | apply below_alloc | apply pw_below_drewN | apply below_drew1 | refine below_set ?_ GE155.out) | exact HB.out)⟩

end Go.Proofs.Ytacacigpendneaa.QV
/- law10.begun. -/
namespace Go.Proofs.Ytacacigpendneaa.QV
open Go.RowKit Go.Proofs.YtacacigpendneaaW.PrintWords Go.Proofs.Ytacacigpendneaa.Mp Go.Proofs.Ytacacigpendneaa.SeqW
set_option linter.unusedVariables false
set_option linter.unusedSimpArgs false
set_option maxRecDepth 100000
set_option maxHeartbeats 4000000 in
theorem begun_any (w : World) :
    Calls Try.prog 11 #[] w fun e w' => ∃ p m, e = .returned (.tuple #[.pointer (some ⟨p, 0, none⟩), .bool true]) ∧ Wo w' p m 0 (fun _ => False) (fun _ => none) ∧ w.heap.size ≤ m ∧ Below w.heap.size w w' := by
  go_enter Try.func11, Try.ntmps11
  go_wp2_with fail
  refine (new_any w).mono ?_
  rintro e w1 ⟨rfl, h1, hb1⟩
  go_wp2_with fail
  refine (new_any w1).mono ?_
  rintro e w2 ⟨rfl, h2, hb2⟩
  go_wp2_with fail
  have h1a := (h1.below hb2).below (below_alloc (below_alloc (Below.refl w2.heap.size w2) (.cells #[.int .u64 2, .int .u32 0] 25)) (.cells #[.int .i64 2, .bool false, .int .i64 5, .string ⟨#[]⟩] 69))
  have h2a := h2.below (below_alloc (below_alloc (Below.refl w2.heap.size w2) (.cells #[.int .u64 2, .int .u32 0] 25)) (.cells #[.int .i64 2, .bool false, .int .i64 5, .string ⟨#[]⟩] 69))
  have hB3 : Below w2.heap.size w2 ((w2.alloc (.cells #[.int .u64 2, .int .u32 0] 25)).alloc (.cells #[.int .i64 2, .bool false, .int .i64 5, .string ⟨#[]⟩] 69)) := below_alloc (below_alloc (Below.refl w2.heap.size w2) _) _
  have hid : ((w2.alloc (.cells #[.int .u64 2, .int .u32 0] 25)).alloc (.cells #[.int .i64 2, .bool false, .int .i64 5, .string ⟨#[]⟩] 69)).heap[w2.heap.size]? = some (.cells #[.int .u64 2, .int .u32 0] 25 (0, 0)) := blk_alloc (blk_new w2 _) _
  have hrow := blk_new (w2.alloc (.cells #[.int .u64 2, .int .u32 0] 25)) (.cells #[.int .i64 2, .bool false, .int .i64 5, .string ⟨#[]⟩] 69)
  rw [World.size_alloc] at hrow
  generalize (w2.alloc (.cells #[.int .u64 2, .int .u32 0] 25)).alloc (.cells #[.int .i64 2, .bool false, .int .i64 5, .string ⟨#[]⟩] 69) = w3 at h1a h2a hB3 hid hrow ⊢
  have hC : kS.C w3 (some ⟨w2.heap.size + 1, 0, none⟩) 1 [⟨2, false, 5, ⟨#[]⟩⟩] := by
    refine ⟨rfl, by decide, fun _ => ⟨_, rfl, fun j p hp => ?_⟩⟩
    cases j with
    | succ j => simp at hp
    | zero =>
      simp at hp
      subst hp
      refine ⟨[.int .i64 2, .bool false, .int .i64 5, .string ⟨#[]⟩], rfl, k69_mk w3 _, fun i u hu => ?_⟩
      have hc := blk_cell hrow i
      have ea : (⟨w2.heap.size + 1, 0, none⟩ : Addr).add (0 * kS.sz + i) = ⟨w2.heap.size + 1, i, none⟩ := by simp [Addr.add]; intro h; exact h.symm
      rw [ea, hc]
      simpa using hu
  refine (add_ok ⟨⟨2, 0⟩, [⟨2, false, 5, ⟨#[]⟩⟩], 0⟩ (some ⟨w2.heap.size + 1, 0, none⟩) 1 w3 _ _ 0 _ _ h1a ⟨by decide, by decide⟩ hC (Nat.le_refl _) (by decide) (by decide) rfl (.inl rfl)).mono ?_
  rintro e w4 ⟨rfl, h1b, hg4⟩
  have hz1 := hb1.size
  have hz2 := hb2.size
  have hz3 := hB3.size
  have hm1 : w.heap.size < w1.heap.size := h1.ml
  have hp1 : w.heap.size + 1 < w1.heap.size := h1.pl
  have hm2 : w1.heap.size < w2.heap.size := h2.ml
  have hp2 : w1.heap.size + 1 < w2.heap.size := h2.pl
  have h2b := h2a.keep hg4.size (hg4.block _ (by omega) (by simp only [ne_eq, Option.some.injEq]; omega)) (hg4.block _ (by omega) (by simp only [ne_eq, Option.some.injEq]; omega)) (fun k hk => hk.elim)
  have hid4 := (hg4.block _ (blk_lt hid) (by simp only [ne_eq, Option.some.injEq]; omega)).trans hid
  have i0 := blk_cell hid4 0
  have i1 := blk_cell hid4 1
  go_wp2_with fail
  refine (erase_ok ⟨2, 0⟩ 4 w4 _ _ _ _ _ h1b ⟨by decide, by decide⟩ ⟨⟨2, 0⟩, [⟨2, false, 5, ⟨#[]⟩⟩], 0⟩ (by simp [updV]) (by decide) rfl (by decide)).mono ?_
  rintro e w5 ⟨rfl, h1c, hg5⟩
  have hz4 := hg4.size
  have h2c := h2b.keep hg5.size (hg5.block _ (by omega) (by simp only [ne_eq, Option.some.injEq]; omega)) (hg5.block _ (by omega) (by simp only [ne_eq, Option.some.injEq]; omega)) (fun k hk => hk.elim)
  have hid5 := (hg5.block _ (blk_lt hid4) (by simp only [ne_eq, Option.some.injEq]; omega)).trans hid4
  clear i0 i1
  have i0 := blk_cell hid5 0
  have i1 := blk_cell hid5 1
  go_wp2_with fail
  refine (get_some ⟨2, 0⟩ w5 _ _ _ _ _ h1c ⟨by decide, by decide⟩ ⟨⟨2, 0⟩, [⟨2, false, 5, ⟨#[]⟩⟩], 4⟩ (by simp [updV])).mono ?_
  rintro e w6 ⟨v, rfl, hR, hb6⟩
  obtain ⟨g, c, rfl, -⟩ := Kd.R_form hR (by decide)
  obtain ⟨-, hc6, hC6⟩ := Kd.R_reads' hR
  have hc1 : 1 ≤ c := hc6
  have hx7 := blk_new w6 (.cells #[.int .u64 2, .int .u32 0, .slice (some ⟨g, 0, none⟩) 1 c, .int .u64 4] tVer)
  have hb7 : Below w6.heap.size w6 (w6.alloc (.cells #[.int .u64 2, .int .u32 0, .slice (some ⟨g, 0, none⟩) 1 c, .int .u64 4] tVer)) := below_alloc (Below.refl _ _) _
  have h1d := h1c.below (btr' hb6 hb7)
  have h2d := h2c.below (btr' hb6 hb7)
  have hC7 := Kd.C_below hC6 hb7
  obtain ⟨ad, had, -, -, h5, -⟩ := at_T69 hC7 0 (by decide) (by decide)
  obtain rfl : (⟨g, 0, none⟩ : Addr) = ad := Option.some.inj had
  have h6 : (w6.alloc (.cells #[.int .u64 2, .int .u32 0, .slice (some ⟨g, 0, none⟩) 1 c, .int .u64 4] tVer)).cell? ⟨g, 2, none⟩ = some (.int .i64 5) := h5
  clear h5
  have x0 := blk_cell hx7 0
  have x1 := blk_cell hx7 1
  have x2 := blk_cell hx7 2
  have x3 := blk_cell hx7 3
  go_wp2_with fail
  refine (len_any _ _ _ _ _ _ h1d).mono ?_
  rintro e w8 ⟨rfl, k, rfl, hk, hL⟩
  obtain rfl : k = 1 := hL [⟨2, 0⟩] (by simp) (by intro a ha; simp at ha; subst ha; exact ⟨by decide, by decide⟩) (fun a ha => by
    by_cases e : a = ⟨2, 0⟩
    · subst e; simp [updV]
    · simp [updV, e])
  clear hL hk
  go_wp2_with fail
  refine (wos_Seen.calls 2 0 _ c [⟨2, false, 5, ⟨#[]⟩⟩] 4 3 true _ hC7 hc1 (by decide)).mono ?_
  rintro e w9 ⟨rfl, hb9⟩
  have hC9 := Kd.C_below hC7 hb9
  have hx9 := blk_below hx7 hb9
  clear x0 x1 x2 x3 h6
  have x0 := blk_cell hx9 0
  have x1 := blk_cell hx9 1
  have x2 := blk_cell hx9 2
  have x3 := blk_cell hx9 3
  go_wp2_with fail
  refine (wos_Seen.calls 2 0 _ c [⟨2, false, 5, ⟨#[]⟩⟩] 4 4 false _ hC9 hc1 (by decide)).mono ?_
  rintro e w10 ⟨rfl, hb10⟩
  go_wp2_with fail
  refine bodyPost_ret (v := .tuple #[.pointer (some ⟨w1.heap.size + 1, 0, none⟩), .bool true]) (by simp [results, Try.results11, go_sem]; try rfl) rfl ?_
  have hBa : Below w.heap.size w w3 := btr' hb1 (btr' hb2 hB3)
  have hBb : Below w.heap.size w w4 := hBa.grown hg4 (by omega) (fun k hk => by cases hk; exact Nat.le_refl _)
  have hBc : Below w.heap.size w w5 := hBb.grown hg5 (by omega) (fun k hk => by cases hk; exact Nat.le_refl _)
  exact ⟨_, _, rfl, (h2d.below hb9).below hb10, hz1, btr' hBc (btr' (btr' hb6 hb7) (btr' hb9 hb10))⟩
end Go.Proofs.Ytacacigpendneaa.QV
/- wos.Less, wos.As, ref10.As. -/
namespace Go.Proofs.Ytacacigpendneaa.QV
open Go.RowKit Go.Proofs.YtacacigpendneaaW.PrintWords Go.Proofs.Ytacacigpendneaa.Mp Go.Proofs.Ytacacigpendneaa.SeqW
set_option linter.unusedVariables false
set_option linter.unusedSimpArgs false
set_option maxRecDepth 100000
theorem less_any (a b : Nm) (w : World) :
    Calls Try.prog 12 #[.agg #[.int .u64 a.f0, .int .u32 a.f1], .agg #[.int .u64 b.f0, .int .u32 b.f1]] w fun e w' => e = .returned (.bool (ltB a b)) ∧ Below w.heap.size w w' := by
  have hB0 : Below w.heap.size w ((w.alloc (.cells #[.int .u64 a.f0, .int .u32 a.f1] tNm)).alloc (.cells #[.int .u64 b.f0, .int .u32 b.f1] tNm)) := below_alloc (below_alloc (Below.refl _ _) _) _
  go_enter Try.func12, Try.ntmps12
  go_wp2_with fail
  refine (order_any a b _).mono ?_
  rintro e w1 ⟨rfl, hg⟩
  go_wp2_with fail
  go_ret
  exact ⟨rfl, btr' hB0 hg.below⟩
/-- A version as it was told at an epoch. -/
def asE (x : Ver) (E : Int) : Ver := if E < x.f2 then ⟨x.f0, x.f1, 0⟩ else x
theorem asE_f0 (x : Ver) (E : Int) : (asE x E).f0 = x.f0 := by unfold asE; split <;> rfl
theorem asE_f1 (x : Ver) (E : Int) : (asE x E).f1 = x.f1 := by unfold asE; split <;> rfl
theorem asE_lt {x : Ver} {E : Int} (h : E < x.f2) : (asE x E).f2 = 0 := by unfold asE; rw [if_pos h]
theorem asE_ge {x : Ver} {E : Int} (h : ¬ E < x.f2) : (asE x E).f2 = x.f2 := by unfold asE; rw [if_neg h]
theorem refAs_any (x : Ver) (E : Int) (A : Option Addr) (c : Nat) (w : World) :
    Calls Try.prog 18 #[.agg #[.int .u64 x.f0.f0, .int .u32 x.f0.f1, .slice A x.f1.length c, .int .u64 x.f2], .int .u64 E] w fun e w' =>
      e = .returned (.agg #[.int .u64 x.f0.f0, .int .u32 x.f0.f1, .slice A x.f1.length c, .int .u64 (asE x E).f2]) ∧ Below w.heap.size w w' := by
  have hfin : ∀ d : Int, ((w.alloc (.cells #[.int .u64 x.f0.f0, .int .u32 x.f0.f1, .slice A x.f1.length c, .int .u64 d] tVer)).alloc (.cells #[.int .u64 x.f0.f0, .int .u32 x.f0.f1, .slice A x.f1.length c, .int .u64 d] tVer)).heap[w.heap.size + 1]? = some (.cells #[.int .u64 x.f0.f0, .int .u32 x.f0.f1, .slice A x.f1.length c, .int .u64 d] tVer (0, 0)) ∧ Below w.heap.size w ((w.alloc (.cells #[.int .u64 x.f0.f0, .int .u32 x.f0.f1, .slice A x.f1.length c, .int .u64 d] tVer)).alloc (.cells #[.int .u64 x.f0.f0, .int .u32 x.f0.f1, .slice A x.f1.length c, .int .u64 d] tVer)) := fun d =>
    ⟨by have := blk_new (w.alloc (.cells #[.int .u64 x.f0.f0, .int .u32 x.f0.f1, .slice A x.f1.length c, .int .u64 d] tVer)) (.cells #[.int .u64 x.f0.f0, .int .u32 x.f0.f1, .slice A x.f1.length c, .int .u64 d] tVer); rw [World.size_alloc] at this; exact this, below_alloc (below_alloc (Below.refl _ _) _) _⟩
  by_cases hd : E < x.f2
  · have d1 : decide (E < x.f2) = true := decide_eq_true hd
    rw [asE_lt hd]
    clear hd
    go_enter Try.func18, Try.ntmps18
    go_wp2_with fail
    obtain ⟨e2, hBF⟩ := hfin 0
    generalize (w.alloc (.cells #[.int .u64 x.f0.f0, .int .u32 x.f0.f1, .slice A x.f1.length c, .int .u64 0] tVer)).alloc (.cells #[.int .u64 x.f0.f0, .int .u32 x.f0.f1, .slice A x.f1.length c, .int .u64 0] tVer) = WF at e2 hBF ⊢
    have r0 := blk_cell e2 0
    have r1 := blk_cell e2 1
    have r2 := blk_cell e2 2
    have r3 := blk_cell e2 3
    refine bodyPost_ret (v := .agg #[.int .u64 x.f0.f0, .int .u32 x.f0.f1, .slice A x.f1.length c, .int .u64 0]) (by simp [results, Try.results18, go_sem, r0, r1, r2, r3]; try rfl) rfl ?_
    exact ⟨rfl, hBF⟩
  · have d1 : decide (E < x.f2) = false := decide_eq_false hd
    rw [asE_ge hd]
    clear hd
    go_enter Try.func18, Try.ntmps18
    go_wp2_with fail
    obtain ⟨e2, hBF⟩ := hfin x.f2
    generalize (w.alloc (.cells #[.int .u64 x.f0.f0, .int .u32 x.f0.f1, .slice A x.f1.length c, .int .u64 x.f2] tVer)).alloc (.cells #[.int .u64 x.f0.f0, .int .u32 x.f0.f1, .slice A x.f1.length c, .int .u64 x.f2] tVer) = WF at e2 hBF ⊢
    have r0 := blk_cell e2 0
    have r1 := blk_cell e2 1
    have r2 := blk_cell e2 2
    have r3 := blk_cell e2 3
    refine bodyPost_ret (v := .agg #[.int .u64 x.f0.f0, .int .u32 x.f0.f1, .slice A x.f1.length c, .int .u64 x.f2]) (by simp [results, Try.results18, go_sem, r0, r1, r2, r3]; try rfl) rfl ?_
    exact ⟨rfl, hBF⟩
set_option maxHeartbeats 400000 in
theorem as_any (x : Ver) (E : Int) (A : Option Addr) (c : Nat) (w : World) (hr : kS.C w A x.f1.length x.f1) (hc : x.f1.length ≤ c) (hb : x.f1.length * 40 ≤ 140737488355328) :
    Calls Try.prog 17 #[.agg #[.int .u64 x.f0.f0, .int .u32 x.f0.f1, .slice A x.f1.length c, .int .u64 x.f2], .int .u64 E] w fun e w' =>
      ∃ v, e = .returned (.agg #[.int .u64 x.f0.f0, .int .u32 x.f0.f1, v, .int .u64 (asE x E).f2]) ∧ kS.R tS w' w.heap.size (fun _ => True) v x.f1 ∧ Below w.heap.size w w' := by
  have hB0 : Below w.heap.size w ((w.alloc (.cells #[.int .u64 x.f0.f0, .int .u32 x.f0.f1, .slice A x.f1.length c, .int .u64 x.f2] tVer)).alloc (.cells #[.int .u64 0, .int .u32 0, .slice none 0 0, .int .u64 0] tVer)) := below_alloc (below_alloc (Below.refl _ _) _) _
  have hbx : ((w.alloc (.cells #[.int .u64 x.f0.f0, .int .u32 x.f0.f1, .slice A x.f1.length c, .int .u64 x.f2] tVer)).alloc (.cells #[.int .u64 0, .int .u32 0, .slice none 0 0, .int .u64 0] tVer)).heap[w.heap.size]? = some (.cells #[.int .u64 x.f0.f0, .int .u32 x.f0.f1, .slice A x.f1.length c, .int .u64 x.f2] tVer (0, 0)) := blk_alloc (blk_new w _) _
  have hby := blk_new (w.alloc (.cells #[.int .u64 x.f0.f0, .int .u32 x.f0.f1, .slice A x.f1.length c, .int .u64 x.f2] tVer)) (.cells #[.int .u64 0, .int .u32 0, .slice none 0 0, .int .u64 0] tVer)
  rw [World.size_alloc] at hby
  obtain ⟨q, hq⟩ : ∃ q, (asE x E).f2 = q := ⟨_, rfl⟩
  rw [hq]
  go_enter Try.func17, Try.ntmps17
  go_wp2_with fail
  generalize (w.alloc (.cells #[.int .u64 x.f0.f0, .int .u32 x.f0.f1, .slice A x.f1.length c, .int .u64 x.f2] tVer)).alloc (.cells #[.int .u64 0, .int .u32 0, .slice none 0 0, .int .u64 0] tVer) = W0 at hB0 hbx hby ⊢
  refine (own_any x A c W0 (Kd.C_below hr hB0) hc hb).mono ?_
  rintro e w1 ⟨v, rfl, hR, hb1⟩
  obtain ⟨A1, c1, rfl⟩ := Kd.R_slice hR
  have hx1 := blk_below hbx hb1
  have hy1 := blk_below hby hb1
  have hB1 := btr' hB0 hb1
  have hs0 : w.heap.size + 1 < W0.heap.size := blk_lt hby
  have hs1 := hb1.size
  have a0 := blk_cell hx1 0
  have a1 := blk_cell hx1 1
  have a2 := blk_cell hx1 2
  have a3 := blk_cell hx1 3
  have f0 := blk_frozen hx1 0
  have f1 := blk_frozen hx1 1
  have f2 := blk_frozen hx1 2
  have f3 := blk_frozen hx1 3
  have d0 := blk_cell hy1 0
  have d1 := blk_cell hy1 1
  have d2 := blk_cell hy1 2
  have d3 := blk_cell hy1 3
  have g0 := blk_frozen hy1 0
  have g1 := blk_frozen hy1 1
  have g2 := blk_frozen hy1 2
  have g3 := blk_frozen hy1 3
  rename_i Q1 K1 k1 K0 k0
  have hh := PLift.up k1
  clear k1
  go_wp2_with fail
  obtain ⟨p1, p2, p3⟩ := four_cells hx1 (.int .u64 x.f0.f0) (.int .u32 x.f0.f1) (.slice A1 x.f1.length c1) (.int .u64 x.f2)
  have hy2 := (p2 (w.heap.size + 1) (by omega)).trans hy1
  have hB2 := hB1.trans (p3 w.heap.size (Nat.le_refl _))
  have hR2 := Kd.R_step (Kd.R_bound hR) (w1 := ((((w1.setCell ⟨w.heap.size, 0, none⟩ (.int .u64 x.f0.f0)).setCell ⟨w.heap.size, 1, none⟩ (.int .u32 x.f0.f1)).setCell ⟨w.heap.size, 2, none⟩ (.slice A1 x.f1.length c1)).setCell ⟨w.heap.size, 3, none⟩ (.int .u64 x.f2))) (fun k hk _ => p2 k (by have := hk.2.1; omega))
  clear p2 p3 a0 a1 a2 a3 f0 f1 f2 f3 d0 d1 d2 d3 g0 g1 g2 g3 hx1 hy1 hB1 hR
  generalize ((((w1.setCell ⟨w.heap.size, 0, none⟩ (.int .u64 x.f0.f0)).setCell ⟨w.heap.size, 1, none⟩ (.int .u32 x.f0.f1)).setCell ⟨w.heap.size, 2, none⟩ (.slice A1 x.f1.length c1)).setCell ⟨w.heap.size, 3, none⟩ (.int .u64 x.f2)) = W2 at p1 hy2 hB2 hR2 ⊢
  refine hh.down _ _ ?_
  have a0 := blk_cell p1 0
  have f0 := blk_frozen p1 0
  have d0 := blk_cell hy2 0
  have g0 := blk_frozen hy2 0
  have a1 := blk_cell p1 1
  have f1 := blk_frozen p1 1
  have d1 := blk_cell hy2 1
  have g1 := blk_frozen hy2 1
  have a2 := blk_cell p1 2
  have f2 := blk_frozen p1 2
  have d2 := blk_cell hy2 2
  have g2 := blk_frozen hy2 2
  have a3 := blk_cell p1 3
  have f3 := blk_frozen p1 3
  have d3 := blk_cell hy2 3
  have g3 := blk_frozen hy2 3
  by_cases hd : E < x.f2
  · have dd : decide (E < x.f2) = true := decide_eq_true hd
    have hq' : q = 0 := hq.symm.trans (asE_lt hd)
    clear hd
    go_wp2_with fail
    have hy3 : (W2.setCell ⟨w.heap.size, 3, none⟩ (.int .u64 0)).heap[w.heap.size + 1]? = _ := (Below.heap_setCell _ _ _ _ (by show w.heap.size + 1 ≠ w.heap.size; omega)).trans hy2
    have hB3 := hB2.setCell (p := ⟨w.heap.size, 3, none⟩) (Nat.le_refl _) (.int .u64 0)
    have hR3 := Kd.R_step hR2 (w1 := (W2.setCell ⟨w.heap.size, 3, none⟩ (.int .u64 0))) (fun k hk _ => Below.heap_setCell _ _ _ _ (by show k ≠ w.heap.size; have := hk.2.1; omega))
    obtain ⟨e2, e3, e4⟩ := four_cells hy3 (.int .u64 x.f0.f0) (.int .u32 x.f0.f1) (.slice A1 x.f1.length c1) (.int .u64 0)
    have hBF := hB3.trans (e4 w.heap.size (by omega))
    have hRF := Kd.R_step hR3 (w1 := (((((W2.setCell ⟨w.heap.size, 3, none⟩ (.int .u64 0)).setCell ⟨w.heap.size + 1, 0, none⟩ (.int .u64 x.f0.f0)).setCell ⟨w.heap.size + 1, 1, none⟩ (.int .u32 x.f0.f1)).setCell ⟨w.heap.size + 1, 2, none⟩ (.slice A1 x.f1.length c1)).setCell ⟨w.heap.size + 1, 3, none⟩ (.int .u64 0))) (fun k hk _ => e3 k (by have := hk.2.1; omega))
    clear e3 e4 a0 a1 a2 a3 f0 f1 f2 f3 d0 d1 d2 d3 g0 g1 g2 g3
    generalize (((((W2.setCell ⟨w.heap.size, 3, none⟩ (.int .u64 0)).setCell ⟨w.heap.size + 1, 0, none⟩ (.int .u64 x.f0.f0)).setCell ⟨w.heap.size + 1, 1, none⟩ (.int .u32 x.f0.f1)).setCell ⟨w.heap.size + 1, 2, none⟩ (.slice A1 x.f1.length c1)).setCell ⟨w.heap.size + 1, 3, none⟩ (.int .u64 0)) = WF at e2 hBF hRF ⊢
    have r0 := blk_cell e2 0
    have r1 := blk_cell e2 1
    have r2 := blk_cell e2 2
    have r3 := blk_cell e2 3
    refine bodyPost_ret (v := .agg #[.int .u64 x.f0.f0, .int .u32 x.f0.f1, .slice A1 x.f1.length c1, .int .u64 0]) (by simp [results, Try.results17, go_sem, r0, r1, r2, r3]; try rfl) rfl ?_
    exact ⟨_, by rw [hq'], Kd.R_lower (Kd.R_mono hRF (fun _ _ => trivial)) (by omega), hBF⟩
  · have dd : decide (E < x.f2) = false := decide_eq_false hd
    have hq' : q = x.f2 := hq.symm.trans (asE_ge hd)
    clear hd
    go_wp2_with fail
    have hy3 := hy2
    have hB3 := hB2
    have hR3 := hR2
    obtain ⟨e2, e3, e4⟩ := four_cells hy3 (.int .u64 x.f0.f0) (.int .u32 x.f0.f1) (.slice A1 x.f1.length c1) (.int .u64 x.f2)
    have hBF := hB3.trans (e4 w.heap.size (by omega))
    have hRF := Kd.R_step hR3 (w1 := ((((W2.setCell ⟨w.heap.size + 1, 0, none⟩ (.int .u64 x.f0.f0)).setCell ⟨w.heap.size + 1, 1, none⟩ (.int .u32 x.f0.f1)).setCell ⟨w.heap.size + 1, 2, none⟩ (.slice A1 x.f1.length c1)).setCell ⟨w.heap.size + 1, 3, none⟩ (.int .u64 x.f2))) (fun k hk _ => e3 k (by have := hk.2.1; omega))
    clear e3 e4 a0 a1 a2 a3 f0 f1 f2 f3 d0 d1 d2 d3 g0 g1 g2 g3
    generalize ((((W2.setCell ⟨w.heap.size + 1, 0, none⟩ (.int .u64 x.f0.f0)).setCell ⟨w.heap.size + 1, 1, none⟩ (.int .u32 x.f0.f1)).setCell ⟨w.heap.size + 1, 2, none⟩ (.slice A1 x.f1.length c1)).setCell ⟨w.heap.size + 1, 3, none⟩ (.int .u64 x.f2)) = WF at e2 hBF hRF ⊢
    have r0 := blk_cell e2 0
    have r1 := blk_cell e2 1
    have r2 := blk_cell e2 2
    have r3 := blk_cell e2 3
    refine bodyPost_ret (v := .agg #[.int .u64 x.f0.f0, .int .u32 x.f0.f1, .slice A1 x.f1.length c1, .int .u64 x.f2]) (by simp [results, Try.results17, go_sem, r0, r1, r2, r3]; try rfl) rfl ?_
    exact ⟨_, by rw [hq'], Kd.R_lower (Kd.R_mono hRF (fun _ _ => trivial)) (by omega), hBF⟩
end Go.Proofs.Ytacacigpendneaa.QV
/- Whether a version is seen at an epoch. -/
namespace Go.Proofs.Ytacacigpendneaa.QV
open Go.RowKit Go.Proofs.YtacacigpendneaaW.PrintWords Go.Proofs.Ytacacigpendneaa.Mp Go.Proofs.Ytacacigpendneaa.SeqW
set_option linter.unusedVariables false
set_option linter.unusedSimpArgs false
set_option maxRecDepth 100000
def seenB (x : Ver) (E : Int) : Bool := decide (x.f0.f0 ≤ E) && (decide (x.f2 = 0) || decide (E < x.f2))
theorem seen_f (x : Ver) (E : Int) : wos_Seen.f x.f0.f0 x.f0.f1 x.f1 x.f2 E = some (seenB x E) := by
  unfold wos_Seen.f seenB
  by_cases h1 : x.f0.f0 ≤ E <;> by_cases h2 : x.f2 = 0 <;> simp [h1, h2]
theorem refSeen_f (x : Ver) (E : Int) : hayloftref10_Seen.f x.f0.f0 x.f0.f1 x.f1 x.f2 E = some (seenB x E) := by
  unfold hayloftref10_Seen.f seenB
  by_cases h1 : x.f0.f0 ≤ E <;> by_cases h2 : x.f2 = 0 <;> simp [h1, h2] <;> omega
theorem less_ne (a b : Nm) : (ltB a b || ltB b a) = !(a.f0 == b.f0 && (a.f1 == b.f1)) := by
  unfold ltB
  rw [Bool.eq_iff_iff]
  simp only [Bool.or_eq_true, decide_eq_true_eq, cmpNm_neg, Bool.not_eq_true', Bool.and_eq_false_iff, beq_eq_false_iff_ne]
  omega
end Go.Proofs.Ytacacigpendneaa.QV
/- WosNames, walked. -/
namespace Go.Proofs.Ytacacigpendneaa.QV
open Go.RowKit Go.Proofs.YtacacigpendneaaW.PrintWords Go.Proofs.Ytacacigpendneaa.Mp Go.Proofs.Ytacacigpendneaa.SeqW
set_option linter.unusedVariables false
set_option linter.unusedSimpArgs false
set_option maxRecDepth 100000
set_option maxHeartbeats 4000000 in
theorem walkNames (a b : Nm) (x : Ver) (E : Int) (A : Option Addr) (c : Nat) (w : World) (hr : kS.C w A x.f1.length x.f1) (hc : x.f1.length ≤ c) (hb : x.f1.length * 40 ≤ 140737488355328) (hl : x.f1.length < 9223372036854775807) :
    Calls Try.prog 3 #[.agg #[.int .u64 a.f0, .int .u32 a.f1, .int .u64 b.f0, .int .u32 b.f1], .agg #[.int .u64 x.f0.f0, .int .u32 x.f0.f1, .slice A x.f1.length c, .int .u64 x.f2], .int .u64 E] w fun e w' =>
      e = .returned (.bool true) ∧ Below w.heap.size w w' := by
  go_enter Try.func3, Try.ntmps3
  go_wp2_with fail
  have hB0 : Below w.heap.size w ((w.alloc (.cells #[.int .u64 a.f0, .int .u32 a.f1, .int .u64 b.f0, .int .u32 b.f1] 26)).alloc (.cells #[.int .u64 x.f0.f0, .int .u32 x.f0.f1, .slice A x.f1.length c, .int .u64 x.f2] tVer)) := below_alloc (below_alloc (Below.refl _ _) _) _
  have hbx : ((w.alloc (.cells #[.int .u64 a.f0, .int .u32 a.f1, .int .u64 b.f0, .int .u32 b.f1] 26)).alloc (.cells #[.int .u64 x.f0.f0, .int .u32 x.f0.f1, .slice A x.f1.length c, .int .u64 x.f2] tVer)).heap[w.heap.size]? = some (.cells #[.int .u64 a.f0, .int .u32 a.f1, .int .u64 b.f0, .int .u32 b.f1] 26 (0, 0)) := blk_alloc (blk_new w _) _
  have hby := blk_new (w.alloc (.cells #[.int .u64 a.f0, .int .u32 a.f1, .int .u64 b.f0, .int .u32 b.f1] 26)) (.cells #[.int .u64 x.f0.f0, .int .u32 x.f0.f1, .slice A x.f1.length c, .int .u64 x.f2] tVer)
  rw [World.size_alloc] at hby
  generalize (w.alloc (.cells #[.int .u64 a.f0, .int .u32 a.f1, .int .u64 b.f0, .int .u32 b.f1] 26)).alloc (.cells #[.int .u64 x.f0.f0, .int .u32 x.f0.f1, .slice A x.f1.length c, .int .u64 x.f2] tVer) = W0 at hB0 hbx hby ⊢
  refine (begun_any W0).mono ?_
  rintro e w1 ⟨p, m, rfl, h1, hm1, hb1⟩
  have hx1 := blk_below hbx hb1
  have hy1 := blk_below hby hb1
  have hB1 := btr' hB0 hb1
  have a0 := blk_cell hx1 0
  have a1 := blk_cell hx1 1
  have a2 := blk_cell hx1 2
  have a3 := blk_cell hx1 3
  go_wp2_with fail
  rename_i Q1 K1 k1
  have hh := PLift.up k1
  clear k1
  have KK : ∀ (b9 b10 : Nat) (W2 : World), W2.heap[b9]? = some (.cells #[.int .u64 a.f0, .int .u32 a.f1] 25 (0, 0)) → W2.heap[b10]? = some (.cells #[.int .u64 b.f0, .int .u32 b.f1] 25 (0, 0)) → Below w1.heap.size w1 W2 → K1 { tmps := #[.agg #[.int .u64 a.f0, .int .u32 a.f1, .int .u64 b.f0, .int .u32 b.f1], .agg #[.int .u64 x.f0.f0, .int .u32 x.f0.f1, .slice A x.f1.length c, .int .u64 x.f2], .int .u64 E, .pointer (some ⟨w.heap.size, 0, none⟩), .pointer (some ⟨w.heap.size + 1, 0, none⟩), undef, .bool false, .pointer (some ⟨p, 0, none⟩), .bool true, .pointer (some ⟨b9, 0, none⟩), .pointer (some ⟨b10, 0, none⟩), undef, undef, .tuple #[.pointer (some ⟨p, 0, none⟩), .bool true], .tuple #[.pointer (some ⟨p, 0, none⟩), .bool true], .pointer (some ⟨p, 0, none⟩), .bool true, .pointer (some ⟨w.heap.size, 0, none⟩), .agg #[.int .u64 a.f0, .int .u32 a.f1], .pointer (some ⟨w.heap.size, 2, none⟩), .agg #[.int .u64 b.f0, .int .u32 b.f1]] ++ Array.replicate 49 undef, defers := [] } W2 := by
    intro b9 b10 W2 m9 m10 hB7
    refine hh.down _ _ ?_
    simp only [List.size_toArray, List.length_cons, List.length_nil, Nat.reduceAdd, Nat.reduceSub, Array.replicate_succ, Array.replicate_zero, List.push_toArray, List.append_toArray, List.nil_append, List.cons_append]
    clear hh
    have hx2 := blk_below hy1 hB7
    have hr2 := Kd.C_below hr (btr' hB1 hB7)
    have hB2 := btr' hB1 hB7
    have hl9 := blk_lt m9
    have hl10 := blk_lt m10
    clear hb1 hm1 h1 hx1 hy1 hbx hby hB1 hB7 hr a0 a1 a2 a3
    have ST : ∀ W' : World, Below W2.heap.size W2 W' → W'.cell? ⟨b9, 0, none⟩ = some (.int .u64 a.f0) ∧ W'.cell? ⟨b9, 1, none⟩ = some (.int .u32 a.f1) ∧ W'.cell? ⟨b10, 0, none⟩ = some (.int .u64 b.f0) ∧ W'.cell? ⟨b10, 1, none⟩ = some (.int .u32 b.f1) ∧ W'.cell? ⟨w.heap.size + 1, 0, none⟩ = some (.int .u64 x.f0.f0) ∧ W'.cell? ⟨w.heap.size + 1, 1, none⟩ = some (.int .u32 x.f0.f1) ∧ W'.cell? ⟨w.heap.size + 1, 2, none⟩ = some (.slice A x.f1.length c) ∧ W'.cell? ⟨w.heap.size + 1, 3, none⟩ = some (.int .u64 x.f2) ∧ Below W2.heap.size W2 W' := fun W' hV => ⟨blk_cell (blk_below m9 hV) 0, blk_cell (blk_below m9 hV) 1, blk_cell (blk_below m10 hV) 0, blk_cell (blk_below m10 hV) 1, blk_cell (blk_below hx2 hV) 0, blk_cell (blk_below hx2 hV) 1, blk_cell (blk_below hx2 hV) 2, blk_cell (blk_below hx2 hV) 3, hV⟩
    have KP : ∀ W' W'' : World, (W'.cell? ⟨b9, 0, none⟩ = some (.int .u64 a.f0) ∧ W'.cell? ⟨b9, 1, none⟩ = some (.int .u32 a.f1) ∧ W'.cell? ⟨b10, 0, none⟩ = some (.int .u64 b.f0) ∧ W'.cell? ⟨b10, 1, none⟩ = some (.int .u32 b.f1) ∧ W'.cell? ⟨w.heap.size + 1, 0, none⟩ = some (.int .u64 x.f0.f0) ∧ W'.cell? ⟨w.heap.size + 1, 1, none⟩ = some (.int .u32 x.f0.f1) ∧ W'.cell? ⟨w.heap.size + 1, 2, none⟩ = some (.slice A x.f1.length c) ∧ W'.cell? ⟨w.heap.size + 1, 3, none⟩ = some (.int .u64 x.f2) ∧ Below W2.heap.size W2 W') → Below W'.heap.size W' W'' → W''.cell? ⟨b9, 0, none⟩ = some (.int .u64 a.f0) ∧ W''.cell? ⟨b9, 1, none⟩ = some (.int .u32 a.f1) ∧ W''.cell? ⟨b10, 0, none⟩ = some (.int .u64 b.f0) ∧ W''.cell? ⟨b10, 1, none⟩ = some (.int .u32 b.f1) ∧ W''.cell? ⟨w.heap.size + 1, 0, none⟩ = some (.int .u64 x.f0.f0) ∧ W''.cell? ⟨w.heap.size + 1, 1, none⟩ = some (.int .u32 x.f0.f1) ∧ W''.cell? ⟨w.heap.size + 1, 2, none⟩ = some (.slice A x.f1.length c) ∧ W''.cell? ⟨w.heap.size + 1, 3, none⟩ = some (.int .u64 x.f2) ∧ Below W2.heap.size W2 W'' := fun W' W'' hS hV => ST W'' (btr' hS.2.2.2.2.2.2.2.2 hV)
    go_wp2_with fail
    rename_i K3 k3
    have hh := PLift.up k3
    clear k3
    have KK3 : ∀ W : World, (W.cell? ⟨b9, 0, none⟩ = some (.int .u64 a.f0) ∧ W.cell? ⟨b9, 1, none⟩ = some (.int .u32 a.f1) ∧ W.cell? ⟨b10, 0, none⟩ = some (.int .u64 b.f0) ∧ W.cell? ⟨b10, 1, none⟩ = some (.int .u32 b.f1) ∧ W.cell? ⟨w.heap.size + 1, 0, none⟩ = some (.int .u64 x.f0.f0) ∧ W.cell? ⟨w.heap.size + 1, 1, none⟩ = some (.int .u32 x.f0.f1) ∧ W.cell? ⟨w.heap.size + 1, 2, none⟩ = some (.slice A x.f1.length c) ∧ W.cell? ⟨w.heap.size + 1, 3, none⟩ = some (.int .u64 x.f2) ∧ Below W2.heap.size W2 W) → K3 { tmps := #[.agg #[.int .u64 a.f0, .int .u32 a.f1, .int .u64 b.f0, .int .u32 b.f1], .agg #[.int .u64 x.f0.f0, .int .u32 x.f0.f1, .slice A x.f1.length c, .int .u64 x.f2], .int .u64 E, .pointer (some ⟨w.heap.size, 0, none⟩), .pointer (some ⟨w.heap.size + 1, 0, none⟩), undef, .bool false, .pointer (some ⟨p, 0, none⟩), .bool true, .pointer (some ⟨b9, 0, none⟩), .pointer (some ⟨b10, 0, none⟩), .bool (ltB a b), .bool (ltB b a), .tuple #[.pointer (some ⟨p, 0, none⟩), .bool true], .tuple #[.pointer (some ⟨p, 0, none⟩), .bool true], .pointer (some ⟨p, 0, none⟩), .bool true, .pointer (some ⟨w.heap.size, 0, none⟩), .agg #[.int .u64 a.f0, .int .u32 a.f1], .pointer (some ⟨w.heap.size, 2, none⟩), .agg #[.int .u64 b.f0, .int .u32 b.f1], .agg #[.int .u64 a.f0, .int .u32 a.f1], .agg #[.int .u64 b.f0, .int .u32 b.f1], .bool (ltB a b), .agg #[.int .u64 b.f0, .int .u32 b.f1], .agg #[.int .u64 a.f0, .int .u32 a.f1], .bool (ltB b a)] ++ Array.replicate 43 undef, defers := [] } W := by
      intro W3 hS3
      refine hh.down _ _ ?_
      simp only [List.size_toArray, List.length_cons, List.length_nil, Nat.reduceAdd, Nat.reduceSub, Array.replicate_succ, Array.replicate_zero, List.push_toArray, List.append_toArray, List.nil_append, List.cons_append]
      clear hh
      have hsame : hayloftref10_Same.f (x.f1.length + 2) x.f0.f0 x.f0.f1 x.f1 (asE x E).f2 x.f0.f0 x.f0.f1 x.f1 (asE x E).f2 = some true := by
        have := same_f (asE x E) (by rw [asE_f1]; exact hl)
        rw [asE_f0, asE_f1] at this; exact this
      have hne := less_ne a b
      obtain ⟨q, hq⟩ : ∃ q, (asE x E).f2 = q := ⟨_, rfl⟩
      rw [hq] at hsame
      have e1 := less_f a b
      have e2 := less_f b a
      have e3 := seen_f x E
      have e4 := refSeen_f x E
      have e5 := as_any x E A c
      have e6 := refAs_any x E A c
      rw [hq] at e5 e6
      generalize ltB a b = t1 at hne e1 ⊢
      generalize ltB b a = t2 at hne e2 ⊢
      generalize seenB x E = t3 at e3 e4
      have e1 := Lib.hid e1
      have e2 := Lib.hid e2
      have e3 := Lib.hid e3
      have e4 := Lib.hid e4
      have hsame := Lib.hid hsame
      have hnb : (t1 || t2) = (if a.f0 = b.f0 then if a.f1 = b.f1 then false else true else true) := by
        rw [hne]
        by_cases q0 : a.f0 = b.f0 <;> by_cases q1 : a.f1 = b.f1 <;> simp [q0, q1]
      have hne' := Lib.hid hnb
      clear hnb
      have e5 := Lib.hid e5
      have e6 := Lib.hid e6
      have hB2 := Lib.hid hB2
      clear hne hq m9 m10 hx2 hl9 hl10 ST
      go_wp2_with fail
      have KP := Lib.hid KP
      have hr2 := Lib.hid hr2
      refine wp_region_noPanic ?_
      cases t1
      · refine wp_region_held_drew (S := fun W' : World => W'.cell? ⟨b9, 0, none⟩ = some (.int .u64 a.f0) ∧ W'.cell? ⟨b9, 1, none⟩ = some (.int .u32 a.f1) ∧ W'.cell? ⟨b10, 0, none⟩ = some (.int .u64 b.f0) ∧ W'.cell? ⟨b10, 1, none⟩ = some (.int .u32 b.f1) ∧ W'.cell? ⟨w.heap.size + 1, 0, none⟩ = some (.int .u64 x.f0.f0) ∧ W'.cell? ⟨w.heap.size + 1, 1, none⟩ = some (.int .u32 x.f0.f1) ∧ W'.cell? ⟨w.heap.size + 1, 2, none⟩ = some (.slice A x.f1.length c) ∧ W'.cell? ⟨w.heap.size + 1, 3, none⟩ = some (.int .u64 x.f2) ∧ Below W2.heap.size W2 W') (by kernel_rfl) (KP.out _ _ hS3 (below_drew (Below.refl _ _))) (fun hS => ?_)
        clear hS3
        refine wpAnyH_take (i := 0) (oi := ⟨some 27, _, _, _, _, _⟩) (v := ?_) rfl (by kernel_rfl) (by kernel_rfl) (by kernel_rfl) (fun _ _ _ h => h) (Or.inl ⟨by rfl, ?_⟩) (by assumption) ?_
        rotate_left
        · intro w hSw; (try dsimp only at hSw); (try go_split_ands); go_simp; (try (with_reducible rfl))
        (try simp only [Act.put, List.setIfInBounds_toArray, List.set_cons_zero, List.set_cons_succ])
        refine wpAnyH_take (i := 1) (oi := ⟨some 28, _, _, _, _, _⟩) (v := ?_) rfl (by kernel_rfl) (by kernel_rfl) (by kernel_rfl) (fun _ _ _ h => h) (Or.inl ⟨by rfl, ?_⟩) (by assumption) ?_
        rotate_left
        · intro w hSw; (try dsimp only at hSw); (try go_split_ands); go_simp; (try (with_reducible rfl))
        (try simp only [Act.put, List.setIfInBounds_toArray, List.set_cons_zero, List.set_cons_succ])
        refine wpAnyH_take (i := 2) (oi := ⟨some 29, _, _, _, _, _⟩) (v := ?_) rfl (by kernel_rfl) (by kernel_rfl) (by kernel_rfl) (fun _ _ _ h => h) (Or.inl ⟨by rfl, ?_⟩) (by assumption) ?_
        rotate_left
        · intro w hSw; (try dsimp only at hSw); (try go_split_ands); go_simp; (try (with_reducible rfl))
        (try simp only [Act.put, List.setIfInBounds_toArray, List.set_cons_zero, List.set_cons_succ])
        refine wpAnyH_take (i := 3) (oi := ⟨some 30, _, _, _, _, _⟩) (v := ?_) rfl (by kernel_rfl) (by kernel_rfl) (by kernel_rfl) (fun _ _ _ h => h) (Or.inl ⟨by rfl, ?_⟩) (by assumption) ?_
        rotate_left
        · intro w hSw; (try dsimp only at hSw); (try go_split_ands); go_simp; (try (with_reducible rfl))
        (try simp only [Act.put, List.setIfInBounds_toArray, List.set_cons_zero, List.set_cons_succ])
        refine wpAnyH_take (i := 4) (oi := ⟨some 31, _, _, _, _, _⟩) (v := ?_) rfl (by kernel_rfl) (by kernel_rfl) (by kernel_rfl) (fun _ _ _ h => h) (Or.inl ⟨by rfl, ?_⟩) (by assumption) ?_
        rotate_left
        · intro w hSw; (try dsimp only at hSw); (try go_split_ands); go_simp; (try (with_reducible rfl))
        (try simp only [Act.put, List.setIfInBounds_toArray, List.set_cons_zero, List.set_cons_succ])
        refine wpAnyH_ready (rs := [5]) (by kernel_rfl) (by simp) ?_
        refine AllReadyH.cons (o := ⟨some 32, _, _, _, _, _⟩) rfl (fun K hK => ?_) AllReadyH.nil
        go_simp
        refine (hayloftref10_Less.calls _ _ _ _ _ _ e1.out).mono ?_
        rintro e w5 ⟨rfl, hb5⟩
        refine hK.out _ _ (KP.out _ _ hS hb5) (fun hS => ?_)
        clear hK K
        (try simp only [Act.put, List.setIfInBounds_toArray, List.set_cons_zero, List.set_cons_succ])
        refine wpAnyH_take (i := 6) (oi := ⟨some 33, _, _, _, _, _⟩) (v := ?_) rfl (by kernel_rfl) (by kernel_rfl) (by kernel_rfl) (fun _ _ _ h => h) (Or.inl ⟨by rfl, ?_⟩) (by assumption) ?_
        rotate_left
        · intro w hSw; (try dsimp only at hSw); (try go_split_ands); go_simp; (try (with_reducible rfl))
        (try simp only [Act.put, List.setIfInBounds_toArray, List.set_cons_zero, List.set_cons_succ])
        refine wpAnyH_take (i := 7) (oi := ⟨some 34, _, _, _, _, _⟩) (v := ?_) rfl (by kernel_rfl) (by kernel_rfl) (by kernel_rfl) (fun _ _ _ h => h) (Or.inl ⟨by rfl, ?_⟩) (by assumption) ?_
        rotate_left
        · intro w hSw; (try dsimp only at hSw); (try go_split_ands); go_simp; (try (with_reducible rfl))
        (try simp only [Act.put, List.setIfInBounds_toArray, List.set_cons_zero, List.set_cons_succ])
        refine wpAnyH_take (i := 8) (oi := ⟨some 35, _, _, _, _, _⟩) (v := ?_) rfl (by kernel_rfl) (by kernel_rfl) (by kernel_rfl) (fun _ _ _ h => h) (Or.inl ⟨by rfl, ?_⟩) (by assumption) ?_
        rotate_left
        · intro w hSw; (try dsimp only at hSw); (try go_split_ands); go_simp; (try (with_reducible rfl))
        (try simp only [Act.put, List.setIfInBounds_toArray, List.set_cons_zero, List.set_cons_succ])
        refine wpAnyH_take (i := 9) (oi := ⟨some 36, _, _, _, _, _⟩) (v := ?_) rfl (by kernel_rfl) (by kernel_rfl) (by kernel_rfl) (fun _ _ _ h => h) (Or.inl ⟨by rfl, ?_⟩) (by assumption) ?_
        rotate_left
        · intro w hSw; (try dsimp only at hSw); (try go_split_ands); go_simp; (try (with_reducible rfl))
        (try simp only [Act.put, List.setIfInBounds_toArray, List.set_cons_zero, List.set_cons_succ])
        refine wpAnyH_take (i := 10) (oi := ⟨some 37, _, _, _, _, _⟩) (v := ?_) rfl (by kernel_rfl) (by kernel_rfl) (by kernel_rfl) (fun _ _ _ h => h) (Or.inl ⟨by rfl, ?_⟩) (by assumption) ?_
        rotate_left
        · intro w hSw; (try dsimp only at hSw); (try go_split_ands); go_simp; (try (with_reducible rfl))
        (try simp only [Act.put, List.setIfInBounds_toArray, List.set_cons_zero, List.set_cons_succ])
        refine wpAnyH_take (i := 11) (oi := ⟨some 38, _, _, _, _, _⟩) (v := ?_) rfl (by kernel_rfl) (by kernel_rfl) (by kernel_rfl) (fun _ _ _ h => h) (Or.inl ⟨by rfl, ?_⟩) (by assumption) ?_
        rotate_left
        · intro w hSw; (try dsimp only at hSw); (try go_split_ands); go_simp; (try (with_reducible rfl))
        (try simp only [Act.put, List.setIfInBounds_toArray, List.set_cons_zero, List.set_cons_succ])
        refine wpAnyH_ready (rs := [12]) (by kernel_rfl) (by simp) ?_
        refine AllReadyH.cons (o := ⟨some 39, _, _, _, _, _⟩) rfl (fun K hK => ?_) AllReadyH.nil
        go_simp
        refine (hayloftref10_Less.calls _ _ _ _ _ _ e2.out).mono ?_
        rintro e w5 ⟨rfl, hb5⟩
        refine hK.out _ _ (KP.out _ _ hS hb5) (fun hS => ?_)
        clear hK K
        (try simp only [Act.put, List.setIfInBounds_toArray, List.set_cons_zero, List.set_cons_succ])
        refine wpAnyH_take (i := 13) (oi := ⟨some 40, _, _, _, _, _⟩) (v := ?_) rfl (by kernel_rfl) (by kernel_rfl) (by kernel_rfl) (fun _ _ _ h => h) (Or.inl ⟨by rfl, ?_⟩) (by assumption) ?_
        rotate_left
        · intro w hSw; (try dsimp only at hSw); (try go_split_ands); go_simp; (try (with_reducible rfl))
        (try simp only [Act.put, List.setIfInBounds_toArray, List.set_cons_zero, List.set_cons_succ])
        refine wpAnyH_take (i := 14) (oi := ⟨some 41, _, _, _, _, _⟩) (v := ?_) rfl (by kernel_rfl) (by kernel_rfl) (by kernel_rfl) (fun _ _ _ h => h) (Or.inl ⟨by rfl, ?_⟩) (by assumption) ?_
        rotate_left
        · intro w hSw; (try dsimp only at hSw); (try go_split_ands); go_simp; (try (with_reducible rfl))
        (try simp only [Act.put, List.setIfInBounds_toArray, List.set_cons_zero, List.set_cons_succ])
        refine wpAnyH_take (i := 15) (oi := ⟨some 42, _, _, _, _, _⟩) (v := ?_) rfl (by kernel_rfl) (by kernel_rfl) (by kernel_rfl) (fun _ _ _ h => h) (Or.inl ⟨by rfl, ?_⟩) (by assumption) ?_
        rotate_left
        · intro w hSw; (try dsimp only at hSw); (try go_split_ands); go_simp; (try (with_reducible rfl))
        (try simp only [Act.put, List.setIfInBounds_toArray, List.set_cons_zero, List.set_cons_succ])
        refine wpAnyH_take (i := 16) (oi := ⟨some 43, _, _, _, _, _⟩) (v := ?_) rfl (by kernel_rfl) (by kernel_rfl) (by kernel_rfl) (fun _ _ _ h => h) (Or.inl ⟨by rfl, ?_⟩) (by assumption) ?_
        rotate_left
        · intro w hSw; (try dsimp only at hSw); (try go_split_ands); go_simp; (try (with_reducible rfl))
        (try simp only [Act.put, List.setIfInBounds_toArray, List.set_cons_zero, List.set_cons_succ])
        refine wpAnyH_take (i := 17) (oi := ⟨some 44, _, _, _, _, _⟩) (v := ?_) rfl (by kernel_rfl) (by kernel_rfl) (by kernel_rfl) (fun _ _ _ h => h) (Or.inl ⟨by rfl, ?_⟩) (by assumption) ?_
        rotate_left
        · intro w hSw; (try dsimp only at hSw); (try go_split_ands); go_simp; (try (with_reducible rfl))
        (try simp only [Act.put, List.setIfInBounds_toArray, List.set_cons_zero, List.set_cons_succ])
        refine wpAnyH_take (i := 18) (oi := ⟨some 45, _, _, _, _, _⟩) (v := ?_) rfl (by kernel_rfl) (by kernel_rfl) (by kernel_rfl) (fun _ _ _ h => h) (Or.inl ⟨by rfl, ?_⟩) (by assumption) ?_
        rotate_left
        · intro w hSw; (try dsimp only at hSw); (try go_split_ands); go_simp; (try (with_reducible rfl))
        (try simp only [Act.put, List.setIfInBounds_toArray, List.set_cons_zero, List.set_cons_succ])
        refine wpAnyH_take (i := 19) (oi := ⟨some 46, _, _, _, _, _⟩) (v := ?_) rfl (by kernel_rfl) (by kernel_rfl) (by kernel_rfl) (fun _ _ _ h => h) (Or.inl ⟨by rfl, ?_⟩) (by assumption) ?_
        rotate_left
        · intro w hSw; (try dsimp only at hSw); (try go_split_ands); go_simp; (try (with_reducible rfl))
        (try simp only [Act.put, List.setIfInBounds_toArray, List.set_cons_zero, List.set_cons_succ])
        refine wpAnyH_take (i := 20) (oi := ⟨some 47, _, _, _, _, _⟩) (v := ?_) rfl (by kernel_rfl) (by kernel_rfl) (by kernel_rfl) (fun _ _ _ h => h) (Or.inl ⟨by rfl, ?_⟩) (by assumption) ?_
        rotate_left
        · intro w hSw; (try dsimp only at hSw); (try go_split_ands); go_simp; (try (with_reducible rfl))
        (try simp only [Act.put, List.setIfInBounds_toArray, List.set_cons_zero, List.set_cons_succ])
        refine wpAnyH_take (i := 21) (oi := ⟨some 48, _, _, _, _, _⟩) (v := ?_) rfl (by kernel_rfl) (by kernel_rfl) (by kernel_rfl) (fun _ _ _ h => h) (Or.inl ⟨by rfl, ?_⟩) (by assumption) ?_
        rotate_left
        · intro w hSw; (try dsimp only at hSw); (try go_split_ands); go_simp; (try (with_reducible rfl))
        (try simp only [Act.put, List.setIfInBounds_toArray, List.set_cons_zero, List.set_cons_succ])
        refine wpAnyH_take (i := 22) (oi := ⟨some 49, _, _, _, _, _⟩) (v := .bool t2) rfl (by kernel_rfl) (by kernel_rfl) (by kernel_rfl) (fun _ _ _ h => h) (Or.inl ⟨by rfl, ?_⟩) (by assumption) ?_
        · intro w hSw; have hn := hne'.out; (try dsimp only at hSw); go_split_ands; go_simp; first | (rw [show t2 = _ from hn]; split <;> (try split) <;> rfl) | (intro q0 q1; rw [if_pos q0, if_pos q1] at hn; cases hn)
        (try simp only [Act.put, List.setIfInBounds_toArray, List.set_cons_zero, List.set_cons_succ])
        refine wpAnyH_take (i := 23) (oi := ⟨some 50, _, _, _, _, _⟩) (v := ?_) rfl (by kernel_rfl) (by kernel_rfl) (by kernel_rfl) (fun _ _ _ h => h) (Or.inl ⟨by rfl, ?_⟩) (by assumption) ?_
        rotate_left
        · intro w hSw; (try dsimp only at hSw); (try go_split_ands); go_simp; (try (with_reducible rfl))
        (try simp only [Act.put, List.setIfInBounds_toArray, List.set_cons_zero, List.set_cons_succ])
        refine wpAnyH_take (i := 24) (oi := ⟨some 51, _, _, _, _, _⟩) (v := ?_) rfl (by kernel_rfl) (by kernel_rfl) (by kernel_rfl) (fun _ _ _ h => h) (Or.inl ⟨by rfl, ?_⟩) (by assumption) ?_
        rotate_left
        · intro w hSw; (try dsimp only at hSw); (try go_split_ands); go_simp; (try (with_reducible rfl))
        (try simp only [Act.put, List.setIfInBounds_toArray, List.set_cons_zero, List.set_cons_succ])
        refine wpAnyH_take (i := 25) (oi := ⟨some 52, _, _, _, _, _⟩) (v := ?_) rfl (by kernel_rfl) (by kernel_rfl) (by kernel_rfl) (fun _ _ _ h => h) (Or.inl ⟨by rfl, ?_⟩) (by assumption) ?_
        rotate_left
        · intro w hSw; (try dsimp only at hSw); (try go_split_ands); go_simp; (try (with_reducible rfl))
        (try simp only [Act.put, List.setIfInBounds_toArray, List.set_cons_zero, List.set_cons_succ])
        refine wpAnyH_take (i := 26) (oi := ⟨some 53, _, _, _, _, _⟩) (v := ?_) rfl (by kernel_rfl) (by kernel_rfl) (by kernel_rfl) (fun _ _ _ h => h) (Or.inl ⟨by rfl, ?_⟩) (by assumption) ?_
        rotate_left
        · intro w hSw; (try dsimp only at hSw); (try go_split_ands); go_simp; (try (with_reducible rfl))
        (try simp only [Act.put, List.setIfInBounds_toArray, List.set_cons_zero, List.set_cons_succ])
        refine wpAnyH_take (i := 27) (oi := ⟨some 54, _, _, _, _, _⟩) (v := ?_) rfl (by kernel_rfl) (by kernel_rfl) (by kernel_rfl) (fun _ _ _ h => h) (Or.inl ⟨by rfl, ?_⟩) (by assumption) ?_
        rotate_left
        · intro w hSw; (try dsimp only at hSw); (try go_split_ands); go_simp; (try (with_reducible rfl))
        (try simp only [Act.put, List.setIfInBounds_toArray, List.set_cons_zero, List.set_cons_succ])
        refine wpAnyH_take (i := 29) (oi := ⟨some 56, _, _, _, _, _⟩) (v := ?_) rfl (by kernel_rfl) (by kernel_rfl) (by kernel_rfl) (fun _ _ _ h => h) (Or.inl ⟨by rfl, ?_⟩) (by assumption) ?_
        rotate_left
        · intro w hSw; (try dsimp only at hSw); (try go_split_ands); go_simp; (try (with_reducible rfl))
        (try simp only [Act.put, List.setIfInBounds_toArray, List.set_cons_zero, List.set_cons_succ])
        refine wpAnyH_take (i := 30) (oi := ⟨some 57, _, _, _, _, _⟩) (v := ?_) rfl (by kernel_rfl) (by kernel_rfl) (by kernel_rfl) (fun _ _ _ h => h) (Or.inl ⟨by rfl, ?_⟩) (by assumption) ?_
        rotate_left
        · intro w hSw; (try dsimp only at hSw); (try go_split_ands); go_simp; (try (with_reducible rfl))
        (try simp only [Act.put, List.setIfInBounds_toArray, List.set_cons_zero, List.set_cons_succ])
        refine wpAnyH_ready (rs := [28]) (by kernel_rfl) (by simp) ?_
        refine AllReadyH.cons (o := ⟨some 55, _, _, _, _, _⟩) rfl (fun K hK => ?_) AllReadyH.nil
        go_simp
        refine (wos_Seen.calls _ _ _ _ _ _ _ _ _ (Kd.C_below hr2.out hS.2.2.2.2.2.2.2.2) hc e3.out).mono ?_
        rintro e w5 ⟨rfl, hb5⟩
        refine hK.out _ _ (KP.out _ _ hS hb5) (fun hS => ?_)
        clear hK K
        (try simp only [Act.put, List.setIfInBounds_toArray, List.set_cons_zero, List.set_cons_succ])
        refine wpAnyH_ready (rs := [31]) (by kernel_rfl) (by simp) ?_
        refine AllReadyH.cons (o := ⟨some 58, _, _, _, _, _⟩) rfl (fun K hK => ?_) AllReadyH.nil
        go_simp
        refine (hayloftref10_Seen.calls _ _ _ _ _ _ _ _ _ (Kd.C_below hr2.out hS.2.2.2.2.2.2.2.2) hc e4.out).mono ?_
        rintro e w5 ⟨rfl, hb5⟩
        refine hK.out _ _ (KP.out _ _ hS hb5) (fun hS => ?_)
        clear hK K
        (try simp only [Act.put, List.setIfInBounds_toArray, List.set_cons_zero, List.set_cons_succ])
        refine wpAnyH_take (i := 32) (oi := ⟨some 59, _, _, _, _, _⟩) (v := ?_) rfl (by kernel_rfl) (by kernel_rfl) (by kernel_rfl) (fun _ _ _ h => h) (Or.inl ⟨by rfl, ?_⟩) (by assumption) ?_
        rotate_left
        · intro w hSw; (try dsimp only at hSw); (try go_split_ands); go_simp; (try (with_reducible rfl))
        (try simp only [Act.put, List.setIfInBounds_toArray, List.set_cons_zero, List.set_cons_succ])
        refine wpAnyH_take (i := 33) (oi := ⟨some 60, _, _, _, _, _⟩) (v := ?_) rfl (by kernel_rfl) (by kernel_rfl) (by kernel_rfl) (fun _ _ _ h => h) (Or.inl ⟨by rfl, ?_⟩) (by assumption) ?_
        rotate_left
        · intro w hSw; (try dsimp only at hSw); (try go_split_ands); go_simp; (try (with_reducible rfl))
        (try simp only [Act.put, List.setIfInBounds_toArray, List.set_cons_zero, List.set_cons_succ])
        refine wpAnyH_take (i := 34) (oi := ⟨some 61, _, _, _, _, _⟩) (v := ?_) rfl (by kernel_rfl) (by kernel_rfl) (by kernel_rfl) (fun _ _ _ h => h) (Or.inl ⟨by rfl, ?_⟩) (by assumption) ?_
        rotate_left
        · intro w hSw; (try dsimp only at hSw); (try go_split_ands); go_simp; (try (with_reducible rfl))
        (try simp only [Act.put, List.setIfInBounds_toArray, List.set_cons_zero, List.set_cons_succ])
        refine wpAnyH_take (i := 35) (oi := ⟨some 62, _, _, _, _, _⟩) (v := ?_) rfl (by kernel_rfl) (by kernel_rfl) (by kernel_rfl) (fun _ _ _ h => h) (Or.inl ⟨by rfl, ?_⟩) (by assumption) ?_
        rotate_left
        · intro w hSw; (try dsimp only at hSw); (try go_split_ands); go_simp; (try (with_reducible rfl))
        (try simp only [Act.put, List.setIfInBounds_toArray, List.set_cons_zero, List.set_cons_succ])
        refine wpAnyH_take (i := 36) (oi := ⟨some 63, _, _, _, _, _⟩) (v := ?_) rfl (by kernel_rfl) (by kernel_rfl) (by kernel_rfl) (fun _ _ _ h => h) (Or.inl ⟨by rfl, ?_⟩) (by assumption) ?_
        rotate_left
        · intro w hSw; (try dsimp only at hSw); (try go_split_ands); go_simp; (try (with_reducible rfl))
        (try simp only [Act.put, List.setIfInBounds_toArray, List.set_cons_zero, List.set_cons_succ])
        refine wpAnyH_take (i := 38) (oi := ⟨some 65, _, _, _, _, _⟩) (v := ?_) rfl (by kernel_rfl) (by kernel_rfl) (by kernel_rfl) (fun _ _ _ h => h) (Or.inl ⟨by rfl, ?_⟩) (by assumption) ?_
        rotate_left
        · intro w hSw; (try dsimp only at hSw); (try go_split_ands); go_simp; (try (with_reducible rfl))
        (try simp only [Act.put, List.setIfInBounds_toArray, List.set_cons_zero, List.set_cons_succ])
        refine wpAnyH_take (i := 39) (oi := ⟨some 66, _, _, _, _, _⟩) (v := ?_) rfl (by kernel_rfl) (by kernel_rfl) (by kernel_rfl) (fun _ _ _ h => h) (Or.inl ⟨by rfl, ?_⟩) (by assumption) ?_
        rotate_left
        · intro w hSw; (try dsimp only at hSw); (try go_split_ands); go_simp; (try (with_reducible rfl))
        (try simp only [Act.put, List.setIfInBounds_toArray, List.set_cons_zero, List.set_cons_succ])
        refine wpAnyH_ready (rs := [37]) (by kernel_rfl) (by simp) ?_
        refine AllReadyH.cons (o := ⟨some 64, _, _, _, _, _⟩) rfl (fun K hK => ?_) AllReadyH.nil
        go_simp
        refine (e5.out _ (Kd.C_below hr2.out hS.2.2.2.2.2.2.2.2) hc hb).mono ?_
        rintro e w5 ⟨v5, rfl, hR5, hb5⟩
        obtain ⟨A5, c5, rfl, hle5, hC5⟩ := Kd.R_reads hR5
        refine hK.out _ _ (KP.out _ _ hS hb5) (fun hS => ?_)
        clear hK K
        (try simp only [Act.put, List.setIfInBounds_toArray, List.set_cons_zero, List.set_cons_succ])
        refine wpAnyH_ready (rs := [40]) (by kernel_rfl) (by simp) ?_
        refine AllReadyH.cons (o := ⟨some 67, _, _, _, _, _⟩) rfl (fun K hK => ?_) AllReadyH.nil
        go_simp
        refine (e6.out _).mono ?_
        rintro e w5 ⟨rfl, hb5⟩
        have hC5 := Kd.C_below hC5 hb5
        refine hK.out _ _ (KP.out _ _ hS hb5) (fun hS => ?_)
        clear hK K
        (try simp only [Act.put, List.setIfInBounds_toArray, List.set_cons_zero, List.set_cons_succ])
        refine wpAnyH_ready (rs := [41]) (by kernel_rfl) (by simp) ?_
        refine AllReadyH.cons (o := ⟨some 68, _, _, _, _, _⟩) rfl (fun K hK => ?_) AllReadyH.nil
        go_simp
        refine (hayloftref10_Same.calls _ _ _ A5 c5 x.f1 _ _ _ A c x.f1 _ _ _ hC5 hle5 (Kd.C_below hr2.out hS.2.2.2.2.2.2.2.2) hc hsame.out).mono ?_
        rintro e w5 ⟨rfl, hb5⟩
        refine hK.out _ _ (KP.out _ _ hS hb5) (fun hS => ?_)
        clear hK K
        (try simp only [Act.put, List.setIfInBounds_toArray, List.set_cons_zero, List.set_cons_succ])
        refine wpAnyH_take (i := 42) (oi := ⟨some 69, _, _, _, _, _⟩) (v := ?_) rfl (by kernel_rfl) (by kernel_rfl) (by kernel_rfl) (fun _ _ _ h => h) (Or.inl ⟨by rfl, ?_⟩) (by assumption) ?_
        rotate_left
        · intro w hSw; (try dsimp only at hSw); (try go_split_ands); go_simp; (try (with_reducible rfl))
        (try simp only [Act.put, List.setIfInBounds_toArray, List.set_cons_zero, List.set_cons_succ])
        refine wpAnyH_take (i := 43) (oi := ⟨some 6, _, _, _, _, _⟩) (v := ?_) rfl (by kernel_rfl) (by kernel_rfl) (by kernel_rfl) (fun _ _ _ h => h) (Or.inl ⟨by rfl, ?_⟩) (by assumption) ?_
        rotate_left
        · intro w hSw; (try dsimp only at hSw); (try go_split_ands); go_simp; (try (with_reducible rfl))
        (try simp only [Act.put, List.setIfInBounds_toArray, List.set_cons_zero, List.set_cons_succ])
        refine wpAnyH_done (by kernel_rfl) ?_ _
        refine NoPanic.normal ?_
        go_wp2_with fail
        go_ret
        exact ⟨rfl, btr' hB2.out hS.2.2.2.2.2.2.2.2⟩
      · refine wp_region_held_drew (S := fun W' : World => W'.cell? ⟨b9, 0, none⟩ = some (.int .u64 a.f0) ∧ W'.cell? ⟨b9, 1, none⟩ = some (.int .u32 a.f1) ∧ W'.cell? ⟨b10, 0, none⟩ = some (.int .u64 b.f0) ∧ W'.cell? ⟨b10, 1, none⟩ = some (.int .u32 b.f1) ∧ W'.cell? ⟨w.heap.size + 1, 0, none⟩ = some (.int .u64 x.f0.f0) ∧ W'.cell? ⟨w.heap.size + 1, 1, none⟩ = some (.int .u32 x.f0.f1) ∧ W'.cell? ⟨w.heap.size + 1, 2, none⟩ = some (.slice A x.f1.length c) ∧ W'.cell? ⟨w.heap.size + 1, 3, none⟩ = some (.int .u64 x.f2) ∧ Below W2.heap.size W2 W') (by kernel_rfl) (KP.out _ _ hS3 (below_drew (Below.refl _ _))) (fun hS => ?_)
        clear hS3
        refine wpAnyH_take (i := 0) (oi := ⟨some 27, _, _, _, _, _⟩) (v := ?_) rfl (by kernel_rfl) (by kernel_rfl) (by kernel_rfl) (fun _ _ _ h => h) (Or.inl ⟨by rfl, ?_⟩) (by assumption) ?_
        rotate_left
        · intro w hSw; (try dsimp only at hSw); (try go_split_ands); go_simp; (try (with_reducible rfl))
        (try simp only [Act.put, List.setIfInBounds_toArray, List.set_cons_zero, List.set_cons_succ])
        refine wpAnyH_take (i := 1) (oi := ⟨some 28, _, _, _, _, _⟩) (v := ?_) rfl (by kernel_rfl) (by kernel_rfl) (by kernel_rfl) (fun _ _ _ h => h) (Or.inl ⟨by rfl, ?_⟩) (by assumption) ?_
        rotate_left
        · intro w hSw; (try dsimp only at hSw); (try go_split_ands); go_simp; (try (with_reducible rfl))
        (try simp only [Act.put, List.setIfInBounds_toArray, List.set_cons_zero, List.set_cons_succ])
        refine wpAnyH_take (i := 2) (oi := ⟨some 29, _, _, _, _, _⟩) (v := ?_) rfl (by kernel_rfl) (by kernel_rfl) (by kernel_rfl) (fun _ _ _ h => h) (Or.inl ⟨by rfl, ?_⟩) (by assumption) ?_
        rotate_left
        · intro w hSw; (try dsimp only at hSw); (try go_split_ands); go_simp; (try (with_reducible rfl))
        (try simp only [Act.put, List.setIfInBounds_toArray, List.set_cons_zero, List.set_cons_succ])
        refine wpAnyH_take (i := 3) (oi := ⟨some 30, _, _, _, _, _⟩) (v := ?_) rfl (by kernel_rfl) (by kernel_rfl) (by kernel_rfl) (fun _ _ _ h => h) (Or.inl ⟨by rfl, ?_⟩) (by assumption) ?_
        rotate_left
        · intro w hSw; (try dsimp only at hSw); (try go_split_ands); go_simp; (try (with_reducible rfl))
        (try simp only [Act.put, List.setIfInBounds_toArray, List.set_cons_zero, List.set_cons_succ])
        refine wpAnyH_take (i := 4) (oi := ⟨some 31, _, _, _, _, _⟩) (v := ?_) rfl (by kernel_rfl) (by kernel_rfl) (by kernel_rfl) (fun _ _ _ h => h) (Or.inl ⟨by rfl, ?_⟩) (by assumption) ?_
        rotate_left
        · intro w hSw; (try dsimp only at hSw); (try go_split_ands); go_simp; (try (with_reducible rfl))
        (try simp only [Act.put, List.setIfInBounds_toArray, List.set_cons_zero, List.set_cons_succ])
        refine wpAnyH_ready (rs := [5]) (by kernel_rfl) (by simp) ?_
        refine AllReadyH.cons (o := ⟨some 32, _, _, _, _, _⟩) rfl (fun K hK => ?_) AllReadyH.nil
        go_simp
        refine (hayloftref10_Less.calls _ _ _ _ _ _ e1.out).mono ?_
        rintro e w5 ⟨rfl, hb5⟩
        refine hK.out _ _ (KP.out _ _ hS hb5) (fun hS => ?_)
        clear hK K
        (try simp only [Act.put, List.setIfInBounds_toArray, List.set_cons_zero, List.set_cons_succ])
        refine wpAnyH_take (i := 6) (oi := ⟨some 33, _, _, _, _, _⟩) (v := ?_) rfl (by kernel_rfl) (by kernel_rfl) (by kernel_rfl) (fun _ _ _ h => h) (Or.inl ⟨by rfl, ?_⟩) (by assumption) ?_
        rotate_left
        · intro w hSw; (try dsimp only at hSw); (try go_split_ands); go_simp; (try (with_reducible rfl))
        (try simp only [Act.put, List.setIfInBounds_toArray, List.set_cons_zero, List.set_cons_succ])
        refine wpAnyH_take (i := 7) (oi := ⟨some 34, _, _, _, _, _⟩) (v := ?_) rfl (by kernel_rfl) (by kernel_rfl) (by kernel_rfl) (fun _ _ _ h => h) (Or.inl ⟨by rfl, ?_⟩) (by assumption) ?_
        rotate_left
        · intro w hSw; (try dsimp only at hSw); (try go_split_ands); go_simp; (try (with_reducible rfl))
        (try simp only [Act.put, List.setIfInBounds_toArray, List.set_cons_zero, List.set_cons_succ])
        refine wpAnyH_take (i := 8) (oi := ⟨some 35, _, _, _, _, _⟩) (v := ?_) rfl (by kernel_rfl) (by kernel_rfl) (by kernel_rfl) (fun _ _ _ h => h) (Or.inl ⟨by rfl, ?_⟩) (by assumption) ?_
        rotate_left
        · intro w hSw; (try dsimp only at hSw); (try go_split_ands); go_simp; (try (with_reducible rfl))
        (try simp only [Act.put, List.setIfInBounds_toArray, List.set_cons_zero, List.set_cons_succ])
        refine wpAnyH_take (i := 9) (oi := ⟨some 36, _, _, _, _, _⟩) (v := ?_) rfl (by kernel_rfl) (by kernel_rfl) (by kernel_rfl) (fun _ _ _ h => h) (Or.inl ⟨by rfl, ?_⟩) (by assumption) ?_
        rotate_left
        · intro w hSw; (try dsimp only at hSw); (try go_split_ands); go_simp; (try (with_reducible rfl))
        (try simp only [Act.put, List.setIfInBounds_toArray, List.set_cons_zero, List.set_cons_succ])
        refine wpAnyH_take (i := 10) (oi := ⟨some 37, _, _, _, _, _⟩) (v := ?_) rfl (by kernel_rfl) (by kernel_rfl) (by kernel_rfl) (fun _ _ _ h => h) (Or.inl ⟨by rfl, ?_⟩) (by assumption) ?_
        rotate_left
        · intro w hSw; (try dsimp only at hSw); (try go_split_ands); go_simp; (try (with_reducible rfl))
        (try simp only [Act.put, List.setIfInBounds_toArray, List.set_cons_zero, List.set_cons_succ])
        refine wpAnyH_take (i := 11) (oi := ⟨some 38, _, _, _, _, _⟩) (v := ?_) rfl (by kernel_rfl) (by kernel_rfl) (by kernel_rfl) (fun _ _ _ h => h) (Or.inl ⟨by rfl, ?_⟩) (by assumption) ?_
        rotate_left
        · intro w hSw; (try dsimp only at hSw); (try go_split_ands); go_simp; (try (with_reducible rfl))
        (try simp only [Act.put, List.setIfInBounds_toArray, List.set_cons_zero, List.set_cons_succ])
        refine wpAnyH_ready (rs := [12]) (by kernel_rfl) (by simp) ?_
        refine AllReadyH.cons (o := ⟨some 39, _, _, _, _, _⟩) rfl (fun K hK => ?_) AllReadyH.nil
        go_simp
        refine (hayloftref10_Less.calls _ _ _ _ _ _ e2.out).mono ?_
        rintro e w5 ⟨rfl, hb5⟩
        refine hK.out _ _ (KP.out _ _ hS hb5) (fun hS => ?_)
        clear hK K
        (try simp only [Act.put, List.setIfInBounds_toArray, List.set_cons_zero, List.set_cons_succ])
        refine wpAnyH_take (i := 13) (oi := ⟨some 40, _, _, _, _, _⟩) (v := ?_) rfl (by kernel_rfl) (by kernel_rfl) (by kernel_rfl) (fun _ _ _ h => h) (Or.inl ⟨by rfl, ?_⟩) (by assumption) ?_
        rotate_left
        · intro w hSw; (try dsimp only at hSw); (try go_split_ands); go_simp; (try (with_reducible rfl))
        (try simp only [Act.put, List.setIfInBounds_toArray, List.set_cons_zero, List.set_cons_succ])
        refine wpAnyH_take (i := 14) (oi := ⟨some 41, _, _, _, _, _⟩) (v := ?_) rfl (by kernel_rfl) (by kernel_rfl) (by kernel_rfl) (fun _ _ _ h => h) (Or.inl ⟨by rfl, ?_⟩) (by assumption) ?_
        rotate_left
        · intro w hSw; (try dsimp only at hSw); (try go_split_ands); go_simp; (try (with_reducible rfl))
        (try simp only [Act.put, List.setIfInBounds_toArray, List.set_cons_zero, List.set_cons_succ])
        refine wpAnyH_take (i := 15) (oi := ⟨some 42, _, _, _, _, _⟩) (v := ?_) rfl (by kernel_rfl) (by kernel_rfl) (by kernel_rfl) (fun _ _ _ h => h) (Or.inl ⟨by rfl, ?_⟩) (by assumption) ?_
        rotate_left
        · intro w hSw; (try dsimp only at hSw); (try go_split_ands); go_simp; (try (with_reducible rfl))
        (try simp only [Act.put, List.setIfInBounds_toArray, List.set_cons_zero, List.set_cons_succ])
        refine wpAnyH_take (i := 16) (oi := ⟨some 43, _, _, _, _, _⟩) (v := ?_) rfl (by kernel_rfl) (by kernel_rfl) (by kernel_rfl) (fun _ _ _ h => h) (Or.inl ⟨by rfl, ?_⟩) (by assumption) ?_
        rotate_left
        · intro w hSw; (try dsimp only at hSw); (try go_split_ands); go_simp; (try (with_reducible rfl))
        (try simp only [Act.put, List.setIfInBounds_toArray, List.set_cons_zero, List.set_cons_succ])
        refine wpAnyH_take (i := 17) (oi := ⟨some 44, _, _, _, _, _⟩) (v := ?_) rfl (by kernel_rfl) (by kernel_rfl) (by kernel_rfl) (fun _ _ _ h => h) (Or.inl ⟨by rfl, ?_⟩) (by assumption) ?_
        rotate_left
        · intro w hSw; (try dsimp only at hSw); (try go_split_ands); go_simp; (try (with_reducible rfl))
        (try simp only [Act.put, List.setIfInBounds_toArray, List.set_cons_zero, List.set_cons_succ])
        refine wpAnyH_take (i := 18) (oi := ⟨some 45, _, _, _, _, _⟩) (v := undef) rfl (by kernel_rfl) (by kernel_rfl) (by kernel_rfl) (fun _ _ _ h => h) (Or.inr ⟨by rfl, rfl⟩) (by assumption) ?_
        (try simp only [Act.put, List.setIfInBounds_toArray, List.set_cons_zero, List.set_cons_succ])
        refine wpAnyH_take (i := 19) (oi := ⟨some 46, _, _, _, _, _⟩) (v := ?_) rfl (by kernel_rfl) (by kernel_rfl) (by kernel_rfl) (fun _ _ _ h => h) (Or.inl ⟨by rfl, ?_⟩) (by assumption) ?_
        rotate_left
        · intro w hSw; (try dsimp only at hSw); (try go_split_ands); go_simp; (try (with_reducible rfl))
        (try simp only [Act.put, List.setIfInBounds_toArray, List.set_cons_zero, List.set_cons_succ])
        refine wpAnyH_take (i := 20) (oi := ⟨some 47, _, _, _, _, _⟩) (v := ?_) rfl (by kernel_rfl) (by kernel_rfl) (by kernel_rfl) (fun _ _ _ h => h) (Or.inl ⟨by rfl, ?_⟩) (by assumption) ?_
        rotate_left
        · intro w hSw; (try dsimp only at hSw); (try go_split_ands); go_simp; (try (with_reducible rfl))
        (try simp only [Act.put, List.setIfInBounds_toArray, List.set_cons_zero, List.set_cons_succ])
        refine wpAnyH_take (i := 21) (oi := ⟨some 48, _, _, _, _, _⟩) (v := ?_) rfl (by kernel_rfl) (by kernel_rfl) (by kernel_rfl) (fun _ _ _ h => h) (Or.inl ⟨by rfl, ?_⟩) (by assumption) ?_
        rotate_left
        · intro w hSw; (try dsimp only at hSw); (try go_split_ands); go_simp; (try (with_reducible rfl))
        (try simp only [Act.put, List.setIfInBounds_toArray, List.set_cons_zero, List.set_cons_succ])
        refine wpAnyH_take (i := 22) (oi := ⟨some 49, _, _, _, _, _⟩) (v := .bool true) rfl (by kernel_rfl) (by kernel_rfl) (by kernel_rfl) (fun _ _ _ h => h) (Or.inl ⟨by rfl, ?_⟩) (by assumption) ?_
        · intro w hSw; have hn := hne'.out; (try dsimp only at hSw); go_split_ands; go_simp; first | (rw [show true = _ from hn]; split <;> (try split) <;> rfl) | (intro q0 q1; rw [if_pos q0, if_pos q1] at hn; cases hn)
        (try simp only [Act.put, List.setIfInBounds_toArray, List.set_cons_zero, List.set_cons_succ])
        refine wpAnyH_take (i := 23) (oi := ⟨some 50, _, _, _, _, _⟩) (v := ?_) rfl (by kernel_rfl) (by kernel_rfl) (by kernel_rfl) (fun _ _ _ h => h) (Or.inl ⟨by rfl, ?_⟩) (by assumption) ?_
        rotate_left
        · intro w hSw; (try dsimp only at hSw); (try go_split_ands); go_simp; (try (with_reducible rfl))
        (try simp only [Act.put, List.setIfInBounds_toArray, List.set_cons_zero, List.set_cons_succ])
        refine wpAnyH_take (i := 24) (oi := ⟨some 51, _, _, _, _, _⟩) (v := ?_) rfl (by kernel_rfl) (by kernel_rfl) (by kernel_rfl) (fun _ _ _ h => h) (Or.inl ⟨by rfl, ?_⟩) (by assumption) ?_
        rotate_left
        · intro w hSw; (try dsimp only at hSw); (try go_split_ands); go_simp; (try (with_reducible rfl))
        (try simp only [Act.put, List.setIfInBounds_toArray, List.set_cons_zero, List.set_cons_succ])
        refine wpAnyH_take (i := 25) (oi := ⟨some 52, _, _, _, _, _⟩) (v := ?_) rfl (by kernel_rfl) (by kernel_rfl) (by kernel_rfl) (fun _ _ _ h => h) (Or.inl ⟨by rfl, ?_⟩) (by assumption) ?_
        rotate_left
        · intro w hSw; (try dsimp only at hSw); (try go_split_ands); go_simp; (try (with_reducible rfl))
        (try simp only [Act.put, List.setIfInBounds_toArray, List.set_cons_zero, List.set_cons_succ])
        refine wpAnyH_take (i := 26) (oi := ⟨some 53, _, _, _, _, _⟩) (v := ?_) rfl (by kernel_rfl) (by kernel_rfl) (by kernel_rfl) (fun _ _ _ h => h) (Or.inl ⟨by rfl, ?_⟩) (by assumption) ?_
        rotate_left
        · intro w hSw; (try dsimp only at hSw); (try go_split_ands); go_simp; (try (with_reducible rfl))
        (try simp only [Act.put, List.setIfInBounds_toArray, List.set_cons_zero, List.set_cons_succ])
        refine wpAnyH_take (i := 27) (oi := ⟨some 54, _, _, _, _, _⟩) (v := ?_) rfl (by kernel_rfl) (by kernel_rfl) (by kernel_rfl) (fun _ _ _ h => h) (Or.inl ⟨by rfl, ?_⟩) (by assumption) ?_
        rotate_left
        · intro w hSw; (try dsimp only at hSw); (try go_split_ands); go_simp; (try (with_reducible rfl))
        (try simp only [Act.put, List.setIfInBounds_toArray, List.set_cons_zero, List.set_cons_succ])
        refine wpAnyH_take (i := 29) (oi := ⟨some 56, _, _, _, _, _⟩) (v := ?_) rfl (by kernel_rfl) (by kernel_rfl) (by kernel_rfl) (fun _ _ _ h => h) (Or.inl ⟨by rfl, ?_⟩) (by assumption) ?_
        rotate_left
        · intro w hSw; (try dsimp only at hSw); (try go_split_ands); go_simp; (try (with_reducible rfl))
        (try simp only [Act.put, List.setIfInBounds_toArray, List.set_cons_zero, List.set_cons_succ])
        refine wpAnyH_take (i := 30) (oi := ⟨some 57, _, _, _, _, _⟩) (v := ?_) rfl (by kernel_rfl) (by kernel_rfl) (by kernel_rfl) (fun _ _ _ h => h) (Or.inl ⟨by rfl, ?_⟩) (by assumption) ?_
        rotate_left
        · intro w hSw; (try dsimp only at hSw); (try go_split_ands); go_simp; (try (with_reducible rfl))
        (try simp only [Act.put, List.setIfInBounds_toArray, List.set_cons_zero, List.set_cons_succ])
        refine wpAnyH_ready (rs := [28]) (by kernel_rfl) (by simp) ?_
        refine AllReadyH.cons (o := ⟨some 55, _, _, _, _, _⟩) rfl (fun K hK => ?_) AllReadyH.nil
        go_simp
        refine (wos_Seen.calls _ _ _ _ _ _ _ _ _ (Kd.C_below hr2.out hS.2.2.2.2.2.2.2.2) hc e3.out).mono ?_
        rintro e w5 ⟨rfl, hb5⟩
        refine hK.out _ _ (KP.out _ _ hS hb5) (fun hS => ?_)
        clear hK K
        (try simp only [Act.put, List.setIfInBounds_toArray, List.set_cons_zero, List.set_cons_succ])
        refine wpAnyH_ready (rs := [31]) (by kernel_rfl) (by simp) ?_
        refine AllReadyH.cons (o := ⟨some 58, _, _, _, _, _⟩) rfl (fun K hK => ?_) AllReadyH.nil
        go_simp
        refine (hayloftref10_Seen.calls _ _ _ _ _ _ _ _ _ (Kd.C_below hr2.out hS.2.2.2.2.2.2.2.2) hc e4.out).mono ?_
        rintro e w5 ⟨rfl, hb5⟩
        refine hK.out _ _ (KP.out _ _ hS hb5) (fun hS => ?_)
        clear hK K
        (try simp only [Act.put, List.setIfInBounds_toArray, List.set_cons_zero, List.set_cons_succ])
        refine wpAnyH_take (i := 32) (oi := ⟨some 59, _, _, _, _, _⟩) (v := ?_) rfl (by kernel_rfl) (by kernel_rfl) (by kernel_rfl) (fun _ _ _ h => h) (Or.inl ⟨by rfl, ?_⟩) (by assumption) ?_
        rotate_left
        · intro w hSw; (try dsimp only at hSw); (try go_split_ands); go_simp; (try (with_reducible rfl))
        (try simp only [Act.put, List.setIfInBounds_toArray, List.set_cons_zero, List.set_cons_succ])
        refine wpAnyH_take (i := 33) (oi := ⟨some 60, _, _, _, _, _⟩) (v := ?_) rfl (by kernel_rfl) (by kernel_rfl) (by kernel_rfl) (fun _ _ _ h => h) (Or.inl ⟨by rfl, ?_⟩) (by assumption) ?_
        rotate_left
        · intro w hSw; (try dsimp only at hSw); (try go_split_ands); go_simp; (try (with_reducible rfl))
        (try simp only [Act.put, List.setIfInBounds_toArray, List.set_cons_zero, List.set_cons_succ])
        refine wpAnyH_take (i := 34) (oi := ⟨some 61, _, _, _, _, _⟩) (v := ?_) rfl (by kernel_rfl) (by kernel_rfl) (by kernel_rfl) (fun _ _ _ h => h) (Or.inl ⟨by rfl, ?_⟩) (by assumption) ?_
        rotate_left
        · intro w hSw; (try dsimp only at hSw); (try go_split_ands); go_simp; (try (with_reducible rfl))
        (try simp only [Act.put, List.setIfInBounds_toArray, List.set_cons_zero, List.set_cons_succ])
        refine wpAnyH_take (i := 35) (oi := ⟨some 62, _, _, _, _, _⟩) (v := ?_) rfl (by kernel_rfl) (by kernel_rfl) (by kernel_rfl) (fun _ _ _ h => h) (Or.inl ⟨by rfl, ?_⟩) (by assumption) ?_
        rotate_left
        · intro w hSw; (try dsimp only at hSw); (try go_split_ands); go_simp; (try (with_reducible rfl))
        (try simp only [Act.put, List.setIfInBounds_toArray, List.set_cons_zero, List.set_cons_succ])
        refine wpAnyH_take (i := 36) (oi := ⟨some 63, _, _, _, _, _⟩) (v := ?_) rfl (by kernel_rfl) (by kernel_rfl) (by kernel_rfl) (fun _ _ _ h => h) (Or.inl ⟨by rfl, ?_⟩) (by assumption) ?_
        rotate_left
        · intro w hSw; (try dsimp only at hSw); (try go_split_ands); go_simp; (try (with_reducible rfl))
        (try simp only [Act.put, List.setIfInBounds_toArray, List.set_cons_zero, List.set_cons_succ])
        refine wpAnyH_take (i := 38) (oi := ⟨some 65, _, _, _, _, _⟩) (v := ?_) rfl (by kernel_rfl) (by kernel_rfl) (by kernel_rfl) (fun _ _ _ h => h) (Or.inl ⟨by rfl, ?_⟩) (by assumption) ?_
        rotate_left
        · intro w hSw; (try dsimp only at hSw); (try go_split_ands); go_simp; (try (with_reducible rfl))
        (try simp only [Act.put, List.setIfInBounds_toArray, List.set_cons_zero, List.set_cons_succ])
        refine wpAnyH_take (i := 39) (oi := ⟨some 66, _, _, _, _, _⟩) (v := ?_) rfl (by kernel_rfl) (by kernel_rfl) (by kernel_rfl) (fun _ _ _ h => h) (Or.inl ⟨by rfl, ?_⟩) (by assumption) ?_
        rotate_left
        · intro w hSw; (try dsimp only at hSw); (try go_split_ands); go_simp; (try (with_reducible rfl))
        (try simp only [Act.put, List.setIfInBounds_toArray, List.set_cons_zero, List.set_cons_succ])
        refine wpAnyH_ready (rs := [37]) (by kernel_rfl) (by simp) ?_
        refine AllReadyH.cons (o := ⟨some 64, _, _, _, _, _⟩) rfl (fun K hK => ?_) AllReadyH.nil
        go_simp
        refine (e5.out _ (Kd.C_below hr2.out hS.2.2.2.2.2.2.2.2) hc hb).mono ?_
        rintro e w5 ⟨v5, rfl, hR5, hb5⟩
        obtain ⟨A5, c5, rfl, hle5, hC5⟩ := Kd.R_reads hR5
        refine hK.out _ _ (KP.out _ _ hS hb5) (fun hS => ?_)
        clear hK K
        (try simp only [Act.put, List.setIfInBounds_toArray, List.set_cons_zero, List.set_cons_succ])
        refine wpAnyH_ready (rs := [40]) (by kernel_rfl) (by simp) ?_
        refine AllReadyH.cons (o := ⟨some 67, _, _, _, _, _⟩) rfl (fun K hK => ?_) AllReadyH.nil
        go_simp
        refine (e6.out _).mono ?_
        rintro e w5 ⟨rfl, hb5⟩
        have hC5 := Kd.C_below hC5 hb5
        refine hK.out _ _ (KP.out _ _ hS hb5) (fun hS => ?_)
        clear hK K
        (try simp only [Act.put, List.setIfInBounds_toArray, List.set_cons_zero, List.set_cons_succ])
        refine wpAnyH_ready (rs := [41]) (by kernel_rfl) (by simp) ?_
        refine AllReadyH.cons (o := ⟨some 68, _, _, _, _, _⟩) rfl (fun K hK => ?_) AllReadyH.nil
        go_simp
        refine (hayloftref10_Same.calls _ _ _ A5 c5 x.f1 _ _ _ A c x.f1 _ _ _ hC5 hle5 (Kd.C_below hr2.out hS.2.2.2.2.2.2.2.2) hc hsame.out).mono ?_
        rintro e w5 ⟨rfl, hb5⟩
        refine hK.out _ _ (KP.out _ _ hS hb5) (fun hS => ?_)
        clear hK K
        (try simp only [Act.put, List.setIfInBounds_toArray, List.set_cons_zero, List.set_cons_succ])
        refine wpAnyH_take (i := 42) (oi := ⟨some 69, _, _, _, _, _⟩) (v := ?_) rfl (by kernel_rfl) (by kernel_rfl) (by kernel_rfl) (fun _ _ _ h => h) (Or.inl ⟨by rfl, ?_⟩) (by assumption) ?_
        rotate_left
        · intro w hSw; (try dsimp only at hSw); (try go_split_ands); go_simp; (try (with_reducible rfl))
        (try simp only [Act.put, List.setIfInBounds_toArray, List.set_cons_zero, List.set_cons_succ])
        refine wpAnyH_take (i := 43) (oi := ⟨some 6, _, _, _, _, _⟩) (v := ?_) rfl (by kernel_rfl) (by kernel_rfl) (by kernel_rfl) (fun _ _ _ h => h) (Or.inl ⟨by rfl, ?_⟩) (by assumption) ?_
        rotate_left
        · intro w hSw; (try dsimp only at hSw); (try go_split_ands); go_simp; (try (with_reducible rfl))
        (try simp only [Act.put, List.setIfInBounds_toArray, List.set_cons_zero, List.set_cons_succ])
        refine wpAnyH_done (by kernel_rfl) ?_ _
        refine NoPanic.normal ?_
        go_wp2_with fail
        go_ret
        exact ⟨rfl, btr' hB2.out hS.2.2.2.2.2.2.2.2⟩
    clear hh
    go_region_held3 (fun W' => W'.cell? ⟨b9, 0, none⟩ = some (.int .u64 a.f0) ∧ W'.cell? ⟨b9, 1, none⟩ = some (.int .u32 a.f1) ∧ W'.cell? ⟨b10, 0, none⟩ = some (.int .u64 b.f0) ∧ W'.cell? ⟨b10, 1, none⟩ = some (.int .u32 b.f1) ∧ W'.cell? ⟨w.heap.size + 1, 0, none⟩ = some (.int .u64 x.f0.f0) ∧ W'.cell? ⟨w.heap.size + 1, 1, none⟩ = some (.int .u32 x.f0.f1) ∧ W'.cell? ⟨w.heap.size + 1, 2, none⟩ = some (.slice A x.f1.length c) ∧ W'.cell? ⟨w.heap.size + 1, 3, none⟩ = some (.int .u64 x.f2) ∧ Below W2.heap.size W2 W') ((first | assumption | exact ST _ (Below.refl _ _) | exact ST _ (below_drew (Below.refl _ _)) | exact KP _ _ (by assumption) (by assumption)))
      (first | ((go_at_call 12; refine (less_any _ _ _).mono ?_; rintro e w1 ⟨rfl, hb⟩)))
    all_goals
      have hz := KK3 _ (by assumption)
      simp only [List.size_toArray, List.length_cons, List.length_nil, Nat.reduceAdd, Nat.reduceSub, Array.replicate_succ, Array.replicate_zero, List.push_toArray, List.append_toArray, List.nil_append, List.cons_append] at hz
      exact hz
  clear hh
  have S0 : ∀ V : World, Below w1.heap.size w1 V → V.cell? ⟨w.heap.size, 0, none⟩ = some (.int .u64 a.f0) ∧ V.cell? ⟨w.heap.size, 1, none⟩ = some (.int .u32 a.f1) ∧ V.cell? ⟨w.heap.size, 2, none⟩ = some (.int .u64 b.f0) ∧ V.cell? ⟨w.heap.size, 3, none⟩ = some (.int .u32 b.f1) ∧ Below w1.heap.size w1 V := fun V hV => ⟨blk_cell (blk_below hx1 hV) 0, blk_cell (blk_below hx1 hV) 1, blk_cell (blk_below hx1 hV) 2, blk_cell (blk_below hx1 hV) 3, hV⟩
  refine wp_region_noPanic ?_
  refine wp_region_held_drew (S := fun V : World => V.cell? ⟨w.heap.size, 0, none⟩ = some (.int .u64 a.f0) ∧ V.cell? ⟨w.heap.size, 1, none⟩ = some (.int .u32 a.f1) ∧ V.cell? ⟨w.heap.size, 2, none⟩ = some (.int .u64 b.f0) ∧ V.cell? ⟨w.heap.size, 3, none⟩ = some (.int .u32 b.f1) ∧ Below w1.heap.size w1 V) (by kernel_rfl) (S0 _ (below_drew (Below.refl _ _))) (fun hS => ?_)
  refine wpAnyH_take (i := 0) (oi := ⟨some 17, _, _, _, _, _⟩) (v := ?_) rfl (by kernel_rfl) (by kernel_rfl) (by kernel_rfl) (fun _ _ _ h => h) (Or.inl ⟨by rfl, ?_⟩) (by assumption) ?_
  rotate_left
  · intro w hSw; (try dsimp only at hSw); (try go_split_ands); go_simp; (try (with_reducible rfl))
  (try simp only [Act.put, List.setIfInBounds_toArray, List.set_cons_zero, List.set_cons_succ])
  refine wpAnyH_take (i := 1) (oi := ⟨some 18, _, _, _, _, _⟩) (v := ?_) rfl (by kernel_rfl) (by kernel_rfl) (by kernel_rfl) (fun _ _ _ h => h) (Or.inl ⟨by rfl, ?_⟩) (by assumption) ?_
  rotate_left
  · intro w hSw; (try dsimp only at hSw); (try go_split_ands); go_simp; (try (with_reducible rfl))
  (try simp only [Act.put, List.setIfInBounds_toArray, List.set_cons_zero, List.set_cons_succ])
  refine wpAnyH_take (i := 2) (oi := ⟨some 19, _, _, _, _, _⟩) (v := ?_) rfl (by kernel_rfl) (by kernel_rfl) (by kernel_rfl) (fun _ _ _ h => h) (Or.inl ⟨by rfl, ?_⟩) (by assumption) ?_
  rotate_left
  · intro w hSw; (try dsimp only at hSw); (try go_split_ands); go_simp; (try (with_reducible rfl))
  (try simp only [Act.put, List.setIfInBounds_toArray, List.set_cons_zero, List.set_cons_succ])
  refine wpAnyH_take (i := 3) (oi := ⟨some 20, _, _, _, _, _⟩) (v := ?_) rfl (by kernel_rfl) (by kernel_rfl) (by kernel_rfl) (fun _ _ _ h => h) (Or.inl ⟨by rfl, ?_⟩) (by assumption) ?_
  rotate_left
  · intro w hSw; (try dsimp only at hSw); (try go_split_ands); go_simp; (try (with_reducible rfl))
  (try simp only [Act.put, List.setIfInBounds_toArray, List.set_cons_zero, List.set_cons_succ])
  refine wpAnyH_ready (rs := [4, 5]) (by kernel_rfl) (by simp) ?_
  refine AllReadyH.cons (o := ⟨some 9, _, _, _, _, _⟩) rfl (fun K hK => ?_) (AllReadyH.cons (o := ⟨some 10, _, _, _, _, _⟩) rfl (fun K hK => ?_) AllReadyH.nil)
  · go_simp
    refine hK.out _ _ (S0 _ (below_alloc (below_drew (Below.refl _ _)) _)) (fun _ => ?_)
    clear hK K
    (try simp only [Act.put, List.setIfInBounds_toArray, List.set_cons_zero, List.set_cons_succ])
    refine wpAnyH_ready (rs := [5]) (by kernel_rfl) (by simp) ?_
    refine AllReadyH.cons (o := ⟨some 10, _, _, _, _, _⟩) rfl (fun K hK => ?_) AllReadyH.nil
    go_simp
    have hBA : Below w1.heap.size w1 (((w1.alloc (.cells #[.int .u64 0, .int .u32 0] 25)).alloc (.cells #[.int .u64 0, .int .u32 0] 25)).drew) := below_drew (below_alloc (below_alloc (Below.refl _ _) _) _)
    have n1 : (((w1.alloc (.cells #[.int .u64 0, .int .u32 0] 25)).alloc (.cells #[.int .u64 0, .int .u32 0] 25)).drew).heap[w1.heap.size]? = some (.cells #[.int .u64 0, .int .u32 0] 25 (0, 0)) := blk_drew (blk_alloc (blk_new w1 _) _)
    have n2 : (((w1.alloc (.cells #[.int .u64 0, .int .u32 0] 25)).alloc (.cells #[.int .u64 0, .int .u32 0] 25)).drew).heap[w1.heap.size + 1]? = some (.cells #[.int .u64 0, .int .u32 0] 25 (0, 0)) := blk_drew (by have := blk_new (w1.alloc (.cells #[.int .u64 0, .int .u32 0] 25)) (.cells #[.int .u64 0, .int .u32 0] 25); rw [World.size_alloc] at this; exact this)
    generalize ((w1.alloc (.cells #[.int .u64 0, .int .u32 0] 25)).alloc (.cells #[.int .u64 0, .int .u32 0] 25)).drew = WA at hBA n1 n2 ⊢
    refine hK.out _ _ (S0 _ hBA) (fun _ => ?_)
    clear hK K
    (try simp only [Act.put, List.setIfInBounds_toArray, List.set_cons_zero, List.set_cons_succ])
    have z10 := blk_cell n1 0
    have z11 := blk_cell n1 1
    have z20 := blk_cell n2 0
    have z21 := blk_cell n2 1
    have y10 := blk_frozen n1 0
    have y11 := blk_frozen n1 1
    have y20 := blk_frozen n2 0
    have y21 := blk_frozen n2 1
    have hB6 : Below w1.heap.size w1 ((WA.setCell ⟨w1.heap.size, 0, none⟩ (.int .u64 a.f0)).setCell ⟨w1.heap.size, 1, none⟩ (.int .u32 a.f1)) := (hBA.setCell (p := ⟨w1.heap.size, 0, none⟩) (by dsimp only; omega) _).setCell (p := ⟨w1.heap.size, 1, none⟩) (by dsimp only; omega) _
    refine wpAnyH_ready (rs := [6]) (by kernel_rfl) (by simp) ?_
    refine AllReadyH.cons (o := ⟨none, _, _, _, _, _⟩) rfl (fun K hK => ?_) AllReadyH.nil
    go_simp
    refine hK.out _ _ (S0 _ hB6) (fun _ => ?_)
    clear hK K
    (try simp only [Act.put, List.setIfInBounds_toArray, List.set_cons_zero, List.set_cons_succ])
    have hB7 : Below w1.heap.size w1 ((((WA.setCell ⟨w1.heap.size, 0, none⟩ (.int .u64 a.f0)).setCell ⟨w1.heap.size, 1, none⟩ (.int .u32 a.f1)).setCell ⟨(w1.heap.size + 1), 0, none⟩ (.int .u64 b.f0)).setCell ⟨(w1.heap.size + 1), 1, none⟩ (.int .u32 b.f1)) := (hB6.setCell (p := ⟨(w1.heap.size + 1), 0, none⟩) (by dsimp only; omega) _).setCell (p := ⟨(w1.heap.size + 1), 1, none⟩) (by dsimp only; omega) _
    refine wpAnyH_ready (rs := [7]) (by kernel_rfl) (by simp) ?_
    refine AllReadyH.cons (o := ⟨none, _, _, _, _, _⟩) rfl (fun K hK => ?_) AllReadyH.nil
    go_simp
    refine hK.out _ _ (S0 _ hB7) (fun _ => ?_)
    clear hK K
    (try simp only [Act.put, List.setIfInBounds_toArray, List.set_cons_zero, List.set_cons_succ])
    refine wpAnyH_done (by kernel_rfl) ?_ _
    refine NoPanic.normal ?_
    have m9 := blk_set (blk_set n1 0 (.int .u64 a.f0)) 1 (.int .u32 a.f1)
    have m9' : ((((WA.setCell ⟨w1.heap.size, 0, none⟩ (.int .u64 a.f0)).setCell ⟨w1.heap.size, 1, none⟩ (.int .u32 a.f1)).setCell ⟨(w1.heap.size + 1), 0, none⟩ (.int .u64 b.f0)).setCell ⟨(w1.heap.size + 1), 1, none⟩ (.int .u32 b.f1)).heap[w1.heap.size]? = some (.cells #[.int .u64 a.f0, .int .u32 a.f1] 25 (0, 0)) := (Below.heap_setCell _ _ _ _ (by dsimp only; omega)).trans ((Below.heap_setCell _ _ _ _ (by dsimp only; omega)).trans m9)
    have m10 : ((((WA.setCell ⟨w1.heap.size, 0, none⟩ (.int .u64 a.f0)).setCell ⟨w1.heap.size, 1, none⟩ (.int .u32 a.f1)).setCell ⟨(w1.heap.size + 1), 0, none⟩ (.int .u64 b.f0)).setCell ⟨(w1.heap.size + 1), 1, none⟩ (.int .u32 b.f1)).heap[(w1.heap.size + 1)]? = some (.cells #[.int .u64 b.f0, .int .u32 b.f1] 25 (0, 0)) := blk_set (blk_set ((Below.heap_setCell _ _ _ _ (by dsimp only; omega)).trans ((Below.heap_setCell _ _ _ _ (by dsimp only; omega)).trans n2)) 0 (.int .u64 b.f0)) 1 (.int .u32 b.f1)
    have hz := KK _ _ _ m9' m10 hB7
    simp only [List.size_toArray, List.length_cons, List.length_nil, Nat.reduceAdd, Nat.reduceSub, Array.replicate_succ, Array.replicate_zero, List.push_toArray, List.append_toArray, List.nil_append, List.cons_append] at hz
    exact hz
  · go_simp
    refine hK.out _ _ (S0 _ (below_alloc (below_drew (Below.refl _ _)) _)) (fun _ => ?_)
    clear hK K
    (try simp only [Act.put, List.setIfInBounds_toArray, List.set_cons_zero, List.set_cons_succ])
    refine wpAnyH_ready (rs := [4]) (by kernel_rfl) (by simp) ?_
    refine AllReadyH.cons (o := ⟨some 9, _, _, _, _, _⟩) rfl (fun K hK => ?_) AllReadyH.nil
    go_simp
    have hBA : Below w1.heap.size w1 (((w1.alloc (.cells #[.int .u64 0, .int .u32 0] 25)).alloc (.cells #[.int .u64 0, .int .u32 0] 25)).drew) := below_drew (below_alloc (below_alloc (Below.refl _ _) _) _)
    have n1 : (((w1.alloc (.cells #[.int .u64 0, .int .u32 0] 25)).alloc (.cells #[.int .u64 0, .int .u32 0] 25)).drew).heap[w1.heap.size]? = some (.cells #[.int .u64 0, .int .u32 0] 25 (0, 0)) := blk_drew (blk_alloc (blk_new w1 _) _)
    have n2 : (((w1.alloc (.cells #[.int .u64 0, .int .u32 0] 25)).alloc (.cells #[.int .u64 0, .int .u32 0] 25)).drew).heap[w1.heap.size + 1]? = some (.cells #[.int .u64 0, .int .u32 0] 25 (0, 0)) := blk_drew (by have := blk_new (w1.alloc (.cells #[.int .u64 0, .int .u32 0] 25)) (.cells #[.int .u64 0, .int .u32 0] 25); rw [World.size_alloc] at this; exact this)
    generalize ((w1.alloc (.cells #[.int .u64 0, .int .u32 0] 25)).alloc (.cells #[.int .u64 0, .int .u32 0] 25)).drew = WA at hBA n1 n2 ⊢
    refine hK.out _ _ (S0 _ hBA) (fun _ => ?_)
    clear hK K
    (try simp only [Act.put, List.setIfInBounds_toArray, List.set_cons_zero, List.set_cons_succ])
    have z10 := blk_cell n1 0
    have z11 := blk_cell n1 1
    have z20 := blk_cell n2 0
    have z21 := blk_cell n2 1
    have y10 := blk_frozen n1 0
    have y11 := blk_frozen n1 1
    have y20 := blk_frozen n2 0
    have y21 := blk_frozen n2 1
    have hB6 : Below w1.heap.size w1 ((WA.setCell ⟨(w1.heap.size + 1), 0, none⟩ (.int .u64 a.f0)).setCell ⟨(w1.heap.size + 1), 1, none⟩ (.int .u32 a.f1)) := (hBA.setCell (p := ⟨(w1.heap.size + 1), 0, none⟩) (by dsimp only; omega) _).setCell (p := ⟨(w1.heap.size + 1), 1, none⟩) (by dsimp only; omega) _
    refine wpAnyH_ready (rs := [6]) (by kernel_rfl) (by simp) ?_
    refine AllReadyH.cons (o := ⟨none, _, _, _, _, _⟩) rfl (fun K hK => ?_) AllReadyH.nil
    go_simp
    refine hK.out _ _ (S0 _ hB6) (fun _ => ?_)
    clear hK K
    (try simp only [Act.put, List.setIfInBounds_toArray, List.set_cons_zero, List.set_cons_succ])
    have hB7 : Below w1.heap.size w1 ((((WA.setCell ⟨(w1.heap.size + 1), 0, none⟩ (.int .u64 a.f0)).setCell ⟨(w1.heap.size + 1), 1, none⟩ (.int .u32 a.f1)).setCell ⟨w1.heap.size, 0, none⟩ (.int .u64 b.f0)).setCell ⟨w1.heap.size, 1, none⟩ (.int .u32 b.f1)) := (hB6.setCell (p := ⟨w1.heap.size, 0, none⟩) (by dsimp only; omega) _).setCell (p := ⟨w1.heap.size, 1, none⟩) (by dsimp only; omega) _
    refine wpAnyH_ready (rs := [7]) (by kernel_rfl) (by simp) ?_
    refine AllReadyH.cons (o := ⟨none, _, _, _, _, _⟩) rfl (fun K hK => ?_) AllReadyH.nil
    go_simp
    refine hK.out _ _ (S0 _ hB7) (fun _ => ?_)
    clear hK K
    (try simp only [Act.put, List.setIfInBounds_toArray, List.set_cons_zero, List.set_cons_succ])
    refine wpAnyH_done (by kernel_rfl) ?_ _
    refine NoPanic.normal ?_
    have m9 := blk_set (blk_set n2 0 (.int .u64 a.f0)) 1 (.int .u32 a.f1)
    have m9' : ((((WA.setCell ⟨(w1.heap.size + 1), 0, none⟩ (.int .u64 a.f0)).setCell ⟨(w1.heap.size + 1), 1, none⟩ (.int .u32 a.f1)).setCell ⟨w1.heap.size, 0, none⟩ (.int .u64 b.f0)).setCell ⟨w1.heap.size, 1, none⟩ (.int .u32 b.f1)).heap[(w1.heap.size + 1)]? = some (.cells #[.int .u64 a.f0, .int .u32 a.f1] 25 (0, 0)) := (Below.heap_setCell _ _ _ _ (by dsimp only; omega)).trans ((Below.heap_setCell _ _ _ _ (by dsimp only; omega)).trans m9)
    have m10 : ((((WA.setCell ⟨(w1.heap.size + 1), 0, none⟩ (.int .u64 a.f0)).setCell ⟨(w1.heap.size + 1), 1, none⟩ (.int .u32 a.f1)).setCell ⟨w1.heap.size, 0, none⟩ (.int .u64 b.f0)).setCell ⟨w1.heap.size, 1, none⟩ (.int .u32 b.f1)).heap[w1.heap.size]? = some (.cells #[.int .u64 b.f0, .int .u32 b.f1] 25 (0, 0)) := blk_set (blk_set ((Below.heap_setCell _ _ _ _ (by dsimp only; omega)).trans ((Below.heap_setCell _ _ _ _ (by dsimp only; omega)).trans n1)) 0 (.int .u64 b.f0)) 1 (.int .u32 b.f1)
    have hz := KK _ _ _ m9' m10 hB7
    simp only [List.size_toArray, List.length_cons, List.length_nil, Nat.reduceAdd, Nat.reduceSub, Array.replicate_succ, Array.replicate_zero, List.push_toArray, List.append_toArray, List.nil_append, List.cons_append] at hz
    exact hz
end Go.Proofs.Ytacacigpendneaa.QV
