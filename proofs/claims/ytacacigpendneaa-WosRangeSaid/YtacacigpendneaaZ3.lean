/- The parts QVx6, WoBegun, WNames, WoCl, RoundP, SeqZ, WoAll, WoPurge, Gone, GoneC, WSeen, WoAt, WoTake, WSpoilt, RefAt, RefEr, WSt, WStep3, WStep2, WStep0, WStep1 of this proof, one behind the other. -/
import Derived.Test.YtacacigpendneaaZ2
import Derived.Shelf.SlMaps.Clone
import Derived.OrdersHeld
import Derived.OrdersIn
import Derived.TacticsIn
import Derived.RangeFuncCalls
import Derived.Deep.RegionHeld
import Derived.ControlIn
import Derived.Scope
/- Printed by mp.py (this session's) with the kit's print: plain functions with the answers of the Go code, and the proofs of it. -/
namespace Go.Proofs.Ytacacigpendneaa.QV
open Go.RowKit Go.Proofs.YtacacigpendneaaW.PrintWords Go.Proofs.YtacacigpendneaaW.PrintLast Go.Proofs.YtacacigpendneaaW.PrintMore
attribute [local go_sem] max2_int min2_int max_two min_two max_three min_three max_four min_four   -- for this text's walks alone
set_option linter.unusedVariables false
set_option linter.unusedSimpArgs false

/-! ### hayloftref10_Add: function 46 -/
def hayloftref10_Add.f (k : Nat) (l0 : List (S29)) (a1_0 : Int) (a1_1 : Int) (l1_2 : List (S69)) (a1_3 : Int) : Option ((List (S29)) × Int) := (hayloftref10_Place.f k l0 a1_0 a1_1).bind fun t132 => (if t132 ≥ 0 then (some (l0, 100)) else (if a1_3 = 0 then ((hayloftref10_Put.f k l0 a1_0 a1_1 l1_2 a1_3).bind fun t133 => (some (t133, 0))) else (if a1_3 ≤ a1_0 then (some (l0, 101)) else ((hayloftref10_Put.f k l0 a1_0 a1_1 l1_2 a1_3).bind fun t136 => (some (t136, 0))))))
theorem hayloftref10_Add.mono : ∀ a0 a1 a2 a3 a4 k, LeO (hayloftref10_Add.f k a0 a1 a2 a3 a4) (hayloftref10_Add.f (k + 1) a0 a1 a2 a3 a4) := by
  intro a0 a1 a2 a3 a4 k
  unfold hayloftref10_Add.f
  repeat' first
      | (with_reducible exact hayloftref10_Place.mono _ _ _ _)
      | (with_reducible exact hayloftref10_Put.mono _ _ _ _ _ _)
      | (with_reducible exact LeO.refl _)
      | (with_reducible exact LeO.none _)
      | (with_reducible refine LeO.ite ?_ ?_)
      | (with_reducible refine LeO.bind ?_ (fun _ => ?_))
      | exact hayloftref10_Place.mono _ _ _ _
      | exact hayloftref10_Put.mono _ _ _ _ _ _
      | exact LeO.none _
      | refine LeO.ite ?_ ?_
      | refine LeO.bind ?_ (fun _ => ?_)
set_option maxHeartbeats 8000000 in
set_option maxRecDepth 100000 in
theorem hayloftref10_Add.calls (k : Nat) (P0_ : Nat → Prop) (A0 : Option Addr) (c0 : Nat) (l0 : List (S29)) (a1_0 : Int) (a1_1 : Int) (P1_2_ : Nat → Prop) (A1_2 : Option Addr) (c1_2 : Nat) (l1_2 : List (S69)) (a1_3 : Int) (r1 : List (S29)) (r2 : Int) (w : World) (hs0 : Kd.V k29 29 w w.heap.size (fun k_ => P0_ k_) (.slice A0 l0.length c0) l0) (hs1_2 : Kd.V k69 69 w w.heap.size (fun k_ => P1_2_ k_) (.slice A1_2 l1_2.length c1_2) l1_2) (h : hayloftref10_Add.f k l0 a1_0 a1_1 l1_2 a1_3 = some (r1, r2)) :
    Calls Try.prog 46 #[.slice A0 l0.length c0, .agg #[.int .u64 a1_0, .int .u32 a1_1, .slice A1_2 l1_2.length c1_2, .int .u64 a1_3]] w fun e w' => ∃ v0_ : Value, e = .returned (.tuple #[v0_, .int .i64 r2]) ∧ Kd.V k29 29 w' w.heap.size (fun k_ => ((P0_ k_ ∨ P1_2_ k_) ∨ w.heap.size ≤ k_)) v0_ r1 ∧ Below w.heap.size w w' := by
  have hu29 := Try.underlying29
  have hu25 := Try.underlying25
  have HO0 := Aside0.mk (show Kd.V k29 29 w w.heap.size (fun k_ => ((P0_ k_ ∨ P1_2_ k_) ∨ w.heap.size ≤ k_)) (.slice A0 l0.length c0) l0 from Kd.V_mono hs0 (fun k_ hk => .inl (.inl hk)))
  have HO1_2 := Aside0.mk (show Kd.V k69 69 w w.heap.size (fun k_ => ((P0_ k_ ∨ P1_2_ k_) ∨ w.heap.size ≤ k_)) (.slice A1_2 l1_2.length c1_2) l1_2 from Kd.V_mono hs1_2 (fun k_ hk => .inl (.inr hk)))
  have HB := Aside0.mk (Below.refl w.heap.size w)
  have H : ((hayloftref10_Place.f k l0 a1_0 a1_1).bind fun t132 => (if t132 ≥ 0 then (some (l0, 100)) else (if a1_3 = 0 then ((hayloftref10_Put.f k l0 a1_0 a1_1 l1_2 a1_3).bind fun t133 => (some (t133, 0))) else (if a1_3 ≤ a1_0 then (some (l0, 101)) else ((hayloftref10_Put.f k l0 a1_0 a1_1 l1_2 a1_3).bind fun t136 => (some (t136, 0))))))) = some (r1, r2) := h
  clear h
  replace H := Option.bind_eq_some_iff.mp H
  obtain ⟨t132, A30, H⟩ := H
  replace H : (if t132 ≥ 0 then (some (l0, 100)) else (if a1_3 = 0 then ((hayloftref10_Put.f k l0 a1_0 a1_1 l1_2 a1_3).bind fun t133 => (some (t133, 0))) else (if a1_3 ≤ a1_0 then (some (l0, 101)) else ((hayloftref10_Put.f k l0 a1_0 a1_1 l1_2 a1_3).bind fun t136 => (some (t136, 0)))))) = some (r1, r2) := H
  have A3 := Aside0.mk A30
  clear A30
  by_cases c4 : t132 ≥ 0
  · rw [if_pos c4] at H
    have c4b0 : decide (0 ≤ t132) = true := decide_eq_true c4
    clear c4
    simp only [Option.some.injEq, Prod.mk.injEq] at H
    obtain ⟨rfl, rfl⟩ := H
    go_enter Try.func46, Try.ntmps46
    go_wp2_with (first | ((with_reducible refine gate_dst (N := 3) rfl ?_); refine box_event ?hg (N := 3) ?hd (cs := #[.int .u64 a1_0, .int .u32 a1_1, .slice A1_2 l1_2.length c1_2, .int .u64 a1_3]) (t := 29) ?hr ?_; (case hd => rfl); (case hg => rfl); (case hr => first | (go_simp; done) | (go_simp; rfl)); intro gb131 hg w5 hbox hb; have n0_ := Aside0.mk (Kd.V_below (Kd.V_elderB (by (with_reducible repeat (first | apply Kd.V_alloc | apply Kd.V_drewN | apply Kd.V_drew)); exact HO0.out) gb131 (Nat.le_of_eq hg.symm)) hb); have n1_ := Aside0.mk (Kd.V_below (Kd.V_elderB (by (with_reducible repeat (first | apply Kd.V_alloc | apply Kd.V_drewN | apply Kd.V_drew)); exact HO1_2.out) gb131 (Nat.le_of_eq hg.symm)) hb); have n2_ := Aside0.mk (below_step (by repeat (first | (with_reducible first | exact HB.out | apply below_alloc | apply pw_below_drewN | apply below_drew1) | exact HB.out)) hb); have n3_ := Aside0.mk (hbox); have n4_ := Aside0.mk ((by rw [hg]; exact (below_size (by repeat (first | (with_reducible first | exact HB.out | apply below_alloc | apply pw_below_drewN | apply below_drew1) | exact HB.out))) : w.heap.size ≤ gb131)); have n5_ := Aside0.mk ((by rw [hg]; exact (below_size (by repeat (first | (with_reducible first | exact HB.out | apply below_alloc | apply pw_below_drewN | apply below_drew1) | exact HB.out))) : w.heap.size ≤ gb131)); clear HO0; clear HO1_2; clear HB; have HO0 := n0_; have HO1_2 := n1_; have HB := n2_; have BK131 := n3_; have GW131 := n4_; have GE131 := n5_; clear n0_ n1_ n2_ n3_ n4_ n5_; clear hb hbox hg; have hcz6_0 : w5.cell? ⟨gb131, 0, none⟩ = some (.int .u64 a1_0) := (blk_cell BK131.out 0).trans rfl; have hcz6_1 : w5.cell? ⟨gb131, 1, none⟩ = some (.int .u32 a1_1) := (blk_cell BK131.out 1).trans rfl; have hcz6_2 : w5.cell? ⟨gb131, 2, none⟩ = some (.slice A1_2 l1_2.length c1_2) := (blk_cell BK131.out 2).trans rfl; have hcz6_3 : w5.cell? ⟨gb131, 3, none⟩ = some (.int .u64 a1_3) := (blk_cell BK131.out 3).trans rfl; have hfz6_0 := blk_frozen BK131.out 0; have hfz6_1 := blk_frozen BK131.out 1; have hfz6_2 := blk_frozen BK131.out 2; have hfz6_3 := blk_frozen BK131.out 3) | ((with_reducible refine gate_callee (f := 19) rfl ?_); refine goesL_ (some 9) rfl rfl Try.func19 (by kernel_rfl) rfl #[.slice A0 l0.length c0, .agg #[.int .u64 a1_0, .int .u32 a1_1]] rfl (by (try simp only [List.map_toArray, List.map_cons, List.map_nil]); first | done | rfl | (simp only [List.length_drop, List.length_take]; rfl)) ?_; (with_reducible refine (hayloftref10_Place.calls k _ _ l0 a1_0 a1_1 t132 _ ?side1 ?side2 A3.out).mono ?_); (case side1 => repeat (first | exact (Kd.V_reads' HO0.out).2.2 | (with_reducible refine Kd.C_alloc ?_ _) | (with_reducible refine Kd.C_drewN ?_ _) | (with_reducible refine Kd.C_drew ?_))); (case side2 => exact (Kd.V_reads' HO0.out).2.1); rintro e w7 ⟨rfl, hb⟩; refine ⟨_, rfl, ?_⟩; have n0_ := Aside0.mk (Kd.V_below (by (with_reducible repeat (first | apply Kd.V_alloc | apply Kd.V_drewN | apply Kd.V_drew)); exact HO0.out) hb); have n1_ := Aside0.mk (Kd.V_below (by (with_reducible repeat (first | apply Kd.V_alloc | apply Kd.V_drewN | apply Kd.V_drew)); exact HO1_2.out) hb); have n2_ := Aside0.mk (blk_below (g := gb131) (o := .cells #[.int .u64 a1_0, .int .u32 a1_1, .slice A1_2 l1_2.length c1_2, .int .u64 a1_3] 29 (0, 0)) (by (with_reducible repeat (first | refine blk_drewN ?_ _ | refine blk_drew ?_ | refine blk_alloc ?_ _)); exact BK131.out) hb); have n3_ := Aside0.mk (below_step (by repeat (first | (with_reducible first | exact HB.out | apply below_alloc | apply pw_below_drewN | apply below_drew1 | refine below_set ?_ GE131.out) | exact HB.out)) hb); clear HO0; clear HO1_2; clear BK131; clear HB; have HO0 := n0_; have HO1_2 := n1_; have BK131 := n2_; have HB := n3_; clear n0_ n1_ n2_ n3_; (try clear hb); (try clear hb2); (try clear hk); (try clear hi)))
    go_ret2
    exact ⟨_, by first | rfl | (simp [errW_none, errW_some] <;> rfl) | (simp [*, errW_none, errW_some] <;> rfl), by (with_reducible repeat (first | apply Kd.V_alloc | apply Kd.V_drewN | apply Kd.V_drew)); exact Kd.V_mono HO0.out (fun _ hk => hk.1), by repeat (first | (with_reducible first | exact HB.out | apply below_alloc | apply pw_below_drewN | apply below_drew1 | refine below_set ?_ GE131.out) | exact HB.out)⟩
  · rw [if_neg c4] at H
    have c4b0 : decide (0 ≤ t132) = false := decide_eq_false c4
    clear c4
    by_cases c8 : a1_3 = 0
    · rw [if_pos c8] at H
      have c8b0 : (a1_3 == 0) = true := beq_iff_eq.mpr c8
      have c8b1 : (a1_3 != 0) = false := bne_eq_false_iff_eq.mpr c8
      clear c8
      replace H := Option.bind_eq_some_iff.mp H
      obtain ⟨t133, A90, H⟩ := H
      replace H : (some (t133, 0)) = some (r1, r2) := H
      have A9 := Aside0.mk A90
      clear A90
      simp only [Option.some.injEq, Prod.mk.injEq] at H
      obtain ⟨rfl, rfl⟩ := H
      go_enter Try.func46, Try.ntmps46
      go_wp2_with (first | ((with_reducible refine gate_dst (N := 3) rfl ?_); refine box_event ?hg (N := 3) ?hd (cs := #[.int .u64 a1_0, .int .u32 a1_1, .slice A1_2 l1_2.length c1_2, .int .u64 a1_3]) (t := 29) ?hr ?_; (case hd => rfl); (case hg => rfl); (case hr => first | (go_simp; done) | (go_simp; rfl)); intro gb131 hg w10 hbox hb; have n0_ := Aside0.mk (Kd.V_below (Kd.V_elderB (by (with_reducible repeat (first | apply Kd.V_alloc | apply Kd.V_drewN | apply Kd.V_drew)); exact HO0.out) gb131 (Nat.le_of_eq hg.symm)) hb); have n1_ := Aside0.mk (Kd.V_below (Kd.V_elderB (by (with_reducible repeat (first | apply Kd.V_alloc | apply Kd.V_drewN | apply Kd.V_drew)); exact HO1_2.out) gb131 (Nat.le_of_eq hg.symm)) hb); have n2_ := Aside0.mk (below_step (by repeat (first | (with_reducible first | exact HB.out | apply below_alloc | apply pw_below_drewN | apply below_drew1) | exact HB.out)) hb); have n3_ := Aside0.mk (hbox); have n4_ := Aside0.mk ((by rw [hg]; exact (below_size (by repeat (first | (with_reducible first | exact HB.out | apply below_alloc | apply pw_below_drewN | apply below_drew1) | exact HB.out))) : w.heap.size ≤ gb131)); have n5_ := Aside0.mk ((by rw [hg]; exact (below_size (by repeat (first | (with_reducible first | exact HB.out | apply below_alloc | apply pw_below_drewN | apply below_drew1) | exact HB.out))) : w.heap.size ≤ gb131)); clear HO0; clear HO1_2; clear HB; have HO0 := n0_; have HO1_2 := n1_; have HB := n2_; have BK131 := n3_; have GW131 := n4_; have GE131 := n5_; clear n0_ n1_ n2_ n3_ n4_ n5_; clear hb hbox hg; have hcz11_0 : w10.cell? ⟨gb131, 0, none⟩ = some (.int .u64 a1_0) := (blk_cell BK131.out 0).trans rfl; have hcz11_1 : w10.cell? ⟨gb131, 1, none⟩ = some (.int .u32 a1_1) := (blk_cell BK131.out 1).trans rfl; have hcz11_2 : w10.cell? ⟨gb131, 2, none⟩ = some (.slice A1_2 l1_2.length c1_2) := (blk_cell BK131.out 2).trans rfl; have hcz11_3 : w10.cell? ⟨gb131, 3, none⟩ = some (.int .u64 a1_3) := (blk_cell BK131.out 3).trans rfl; have hfz11_0 := blk_frozen BK131.out 0; have hfz11_1 := blk_frozen BK131.out 1; have hfz11_2 := blk_frozen BK131.out 2; have hfz11_3 := blk_frozen BK131.out 3) | ((with_reducible refine gate_callee (f := 19) rfl ?_); refine goesL_ (some 9) rfl rfl Try.func19 (by kernel_rfl) rfl #[.slice A0 l0.length c0, .agg #[.int .u64 a1_0, .int .u32 a1_1]] rfl (by (try simp only [List.map_toArray, List.map_cons, List.map_nil]); first | done | rfl | (simp only [List.length_drop, List.length_take]; rfl)) ?_; (with_reducible refine (hayloftref10_Place.calls k _ _ l0 a1_0 a1_1 t132 _ ?side1 ?side2 A3.out).mono ?_); (case side1 => repeat (first | exact (Kd.V_reads' HO0.out).2.2 | (with_reducible refine Kd.C_alloc ?_ _) | (with_reducible refine Kd.C_drewN ?_ _) | (with_reducible refine Kd.C_drew ?_))); (case side2 => exact (Kd.V_reads' HO0.out).2.1); rintro e w12 ⟨rfl, hb⟩; refine ⟨_, rfl, ?_⟩; have n0_ := Aside0.mk (Kd.V_below (by (with_reducible repeat (first | apply Kd.V_alloc | apply Kd.V_drewN | apply Kd.V_drew)); exact HO0.out) hb); have n1_ := Aside0.mk (Kd.V_below (by (with_reducible repeat (first | apply Kd.V_alloc | apply Kd.V_drewN | apply Kd.V_drew)); exact HO1_2.out) hb); have n2_ := Aside0.mk (blk_below (g := gb131) (o := .cells #[.int .u64 a1_0, .int .u32 a1_1, .slice A1_2 l1_2.length c1_2, .int .u64 a1_3] 29 (0, 0)) (by (with_reducible repeat (first | refine blk_drewN ?_ _ | refine blk_drew ?_ | refine blk_alloc ?_ _)); exact BK131.out) hb); have n3_ := Aside0.mk (below_step (by repeat (first | (with_reducible first | exact HB.out | apply below_alloc | apply pw_below_drewN | apply below_drew1 | refine below_set ?_ GE131.out) | exact HB.out)) hb); clear HO0; clear HO1_2; clear BK131; clear HB; have HO0 := n0_; have HO1_2 := n1_; have BK131 := n2_; have HB := n3_; clear n0_ n1_ n2_ n3_; (try clear hb); (try clear hb2); (try clear hk); (try clear hi); have hcz13_0 : w12.cell? ⟨gb131, 0, none⟩ = some (.int .u64 a1_0) := (blk_cell BK131.out 0).trans rfl; have hcz13_1 : w12.cell? ⟨gb131, 1, none⟩ = some (.int .u32 a1_1) := (blk_cell BK131.out 1).trans rfl; have hcz13_2 : w12.cell? ⟨gb131, 2, none⟩ = some (.slice A1_2 l1_2.length c1_2) := (blk_cell BK131.out 2).trans rfl; have hcz13_3 : w12.cell? ⟨gb131, 3, none⟩ = some (.int .u64 a1_3) := (blk_cell BK131.out 3).trans rfl; have hfz13_0 := blk_frozen BK131.out 0; have hfz13_1 := blk_frozen BK131.out 1; have hfz13_2 := blk_frozen BK131.out 2; have hfz13_3 := blk_frozen BK131.out 3) | ((with_reducible refine gate_callee (f := 58) rfl ?_); refine goesL_ (some 26) rfl rfl Try.func58 (by kernel_rfl) rfl #[.slice A0 l0.length c0, .agg #[.int .u64 a1_0, .int .u32 a1_1, .slice A1_2 l1_2.length c1_2, .int .u64 a1_3]] rfl (by (try simp only [List.map_toArray, List.map_cons, List.map_nil]); first | done | rfl | (simp only [List.length_drop, List.length_take]; rfl)) ?_; (with_reducible refine (hayloftref10_Put.calls k (fun k_ => (((P0_ k_ ∨ P1_2_ k_) ∨ w.heap.size ≤ k_) ∧ k_ ≠ gb131)) _ _ l0 a1_0 a1_1 (fun k_ => (((P0_ k_ ∨ P1_2_ k_) ∨ w.heap.size ≤ k_) ∧ k_ ≠ gb131)) _ _ l1_2 a1_3 t133 _ ?side1 ?side2 A9.out).mono ?_); (case side1 => exact HO0.out); (case side2 => exact HO1_2.out); rintro e w14 ⟨v134, rfl, ho0, hb⟩; refine ⟨_, rfl, ?_⟩; have n0_ := Aside0.mk (Kd.V_elder' (by (with_reducible repeat (first | apply Kd.V_alloc | apply Kd.V_drewN | apply Kd.V_drew)); exact HO0.out) (Kd.N_base ho0) hb); have n1_ := Aside0.mk (Kd.V_elder' (by (with_reducible repeat (first | apply Kd.V_alloc | apply Kd.V_drewN | apply Kd.V_drew)); exact HO1_2.out) (Kd.N_base ho0) hb); have n2_ := Aside0.mk (Kd.N_lower (Kd.N_mono (ok' := fun k_ => ((P0_ k_ ∨ P1_2_ k_) ∨ w.heap.size ≤ k_) ∧ k_ ≠ gb131) ho0 (fun k_ hk_ => ⟨Or.elim hk_ (fun hs_ => Or.elim hs_ (fun hs_ => hs_.1) (fun hs_ => hs_.1)) (fun hn_ => (.inr (Nat.le_trans (below_size (by repeat (first | (with_reducible first | exact HB.out | apply below_alloc | apply pw_below_drewN | apply below_drew1 | refine below_set ?_ GE131.out) | exact HB.out))) hn_))), Or.elim hk_ (fun hs_ => Or.elim hs_ (fun hs_ => hs_.2) (fun hs_ => hs_.2)) (fun hn_ => (Kd.freshB (g := gb131) (o := .cells #[.int .u64 a1_0, .int .u32 a1_1, .slice A1_2 l1_2.length c1_2, .int .u64 a1_3] 29 (0, 0)) (by (with_reducible repeat (first | refine blk_drewN ?_ _ | refine blk_drew ?_ | refine blk_alloc ?_ _)); exact BK131.out) k_ hn_))⟩)) (below_size (by repeat (first | (with_reducible first | exact HB.out | apply below_alloc | apply pw_below_drewN | apply below_drew1 | refine below_set ?_ GE131.out) | exact HB.out)))); have n3_ := Aside0.mk (blk_below (g := gb131) (o := .cells #[.int .u64 a1_0, .int .u32 a1_1, .slice A1_2 l1_2.length c1_2, .int .u64 a1_3] 29 (0, 0)) (by (with_reducible repeat (first | refine blk_drewN ?_ _ | refine blk_drew ?_ | refine blk_alloc ?_ _)); exact BK131.out) hb); have n4_ := Aside0.mk (below_step (by repeat (first | (with_reducible first | exact HB.out | apply below_alloc | apply pw_below_drewN | apply below_drew1 | refine below_set ?_ GE131.out) | exact HB.out)) hb); clear HO0; clear HO1_2; clear BK131; clear HB; have HO0 := n0_; have HO1_2 := n1_; have HO135 := n2_; have BK131 := n3_; have HB := n4_; clear n0_ n1_ n2_ n3_ n4_; (try clear hb); (try clear hb2); (try clear hk); (try clear hi); (try clear ho0)))
      go_ret2
      exact ⟨_, by first | rfl | (simp [errW_none, errW_some] <;> rfl) | (simp [*, errW_none, errW_some] <;> rfl), Kd.N_V (by (with_reducible repeat (first | apply Kd.N_alloc | apply Kd.N_drewN | apply Kd.N_drew)); exact Kd.N_mono HO135.out (fun _ hk => hk.1)), by repeat (first | (with_reducible first | exact HB.out | apply below_alloc | apply pw_below_drewN | apply below_drew1 | refine below_set ?_ GE131.out) | exact HB.out)⟩
    · rw [if_neg c8] at H
      have c8b0 : (a1_3 == 0) = false := beq_eq_false_iff_ne.mpr c8
      have c8b1 : (a1_3 != 0) = true := bne_iff_ne.mpr c8
      by_cases c15 : a1_3 ≤ a1_0
      · rw [if_pos c15] at H
        have c15b0 : decide (a1_3 ≤ a1_0) = true := decide_eq_true c15
        clear c15
        simp only [Option.some.injEq, Prod.mk.injEq] at H
        obtain ⟨rfl, rfl⟩ := H
        go_enter Try.func46, Try.ntmps46
        go_wp2_with (first | ((with_reducible refine gate_dst (N := 3) rfl ?_); refine box_event ?hg (N := 3) ?hd (cs := #[.int .u64 a1_0, .int .u32 a1_1, .slice A1_2 l1_2.length c1_2, .int .u64 a1_3]) (t := 29) ?hr ?_; (case hd => rfl); (case hg => rfl); (case hr => first | (go_simp; done) | (go_simp; rfl)); intro gb131 hg w16 hbox hb; have n0_ := Aside0.mk (Kd.V_below (Kd.V_elderB (by (with_reducible repeat (first | apply Kd.V_alloc | apply Kd.V_drewN | apply Kd.V_drew)); exact HO0.out) gb131 (Nat.le_of_eq hg.symm)) hb); have n1_ := Aside0.mk (Kd.V_below (Kd.V_elderB (by (with_reducible repeat (first | apply Kd.V_alloc | apply Kd.V_drewN | apply Kd.V_drew)); exact HO1_2.out) gb131 (Nat.le_of_eq hg.symm)) hb); have n2_ := Aside0.mk (below_step (by repeat (first | (with_reducible first | exact HB.out | apply below_alloc | apply pw_below_drewN | apply below_drew1) | exact HB.out)) hb); have n3_ := Aside0.mk (hbox); have n4_ := Aside0.mk ((by rw [hg]; exact (below_size (by repeat (first | (with_reducible first | exact HB.out | apply below_alloc | apply pw_below_drewN | apply below_drew1) | exact HB.out))) : w.heap.size ≤ gb131)); have n5_ := Aside0.mk ((by rw [hg]; exact (below_size (by repeat (first | (with_reducible first | exact HB.out | apply below_alloc | apply pw_below_drewN | apply below_drew1) | exact HB.out))) : w.heap.size ≤ gb131)); clear HO0; clear HO1_2; clear HB; have HO0 := n0_; have HO1_2 := n1_; have HB := n2_; have BK131 := n3_; have GW131 := n4_; have GE131 := n5_; clear n0_ n1_ n2_ n3_ n4_ n5_; clear hb hbox hg; have hcz17_0 : w16.cell? ⟨gb131, 0, none⟩ = some (.int .u64 a1_0) := (blk_cell BK131.out 0).trans rfl; have hcz17_1 : w16.cell? ⟨gb131, 1, none⟩ = some (.int .u32 a1_1) := (blk_cell BK131.out 1).trans rfl; have hcz17_2 : w16.cell? ⟨gb131, 2, none⟩ = some (.slice A1_2 l1_2.length c1_2) := (blk_cell BK131.out 2).trans rfl; have hcz17_3 : w16.cell? ⟨gb131, 3, none⟩ = some (.int .u64 a1_3) := (blk_cell BK131.out 3).trans rfl; have hfz17_0 := blk_frozen BK131.out 0; have hfz17_1 := blk_frozen BK131.out 1; have hfz17_2 := blk_frozen BK131.out 2; have hfz17_3 := blk_frozen BK131.out 3) | ((with_reducible refine gate_callee (f := 19) rfl ?_); refine goesL_ (some 9) rfl rfl Try.func19 (by kernel_rfl) rfl #[.slice A0 l0.length c0, .agg #[.int .u64 a1_0, .int .u32 a1_1]] rfl (by (try simp only [List.map_toArray, List.map_cons, List.map_nil]); first | done | rfl | (simp only [List.length_drop, List.length_take]; rfl)) ?_; (with_reducible refine (hayloftref10_Place.calls k _ _ l0 a1_0 a1_1 t132 _ ?side1 ?side2 A3.out).mono ?_); (case side1 => repeat (first | exact (Kd.V_reads' HO0.out).2.2 | (with_reducible refine Kd.C_alloc ?_ _) | (with_reducible refine Kd.C_drewN ?_ _) | (with_reducible refine Kd.C_drew ?_))); (case side2 => exact (Kd.V_reads' HO0.out).2.1); rintro e w18 ⟨rfl, hb⟩; refine ⟨_, rfl, ?_⟩; have n0_ := Aside0.mk (Kd.V_below (by (with_reducible repeat (first | apply Kd.V_alloc | apply Kd.V_drewN | apply Kd.V_drew)); exact HO0.out) hb); have n1_ := Aside0.mk (Kd.V_below (by (with_reducible repeat (first | apply Kd.V_alloc | apply Kd.V_drewN | apply Kd.V_drew)); exact HO1_2.out) hb); have n2_ := Aside0.mk (blk_below (g := gb131) (o := .cells #[.int .u64 a1_0, .int .u32 a1_1, .slice A1_2 l1_2.length c1_2, .int .u64 a1_3] 29 (0, 0)) (by (with_reducible repeat (first | refine blk_drewN ?_ _ | refine blk_drew ?_ | refine blk_alloc ?_ _)); exact BK131.out) hb); have n3_ := Aside0.mk (below_step (by repeat (first | (with_reducible first | exact HB.out | apply below_alloc | apply pw_below_drewN | apply below_drew1 | refine below_set ?_ GE131.out) | exact HB.out)) hb); clear HO0; clear HO1_2; clear BK131; clear HB; have HO0 := n0_; have HO1_2 := n1_; have BK131 := n2_; have HB := n3_; clear n0_ n1_ n2_ n3_; (try clear hb); (try clear hb2); (try clear hk); (try clear hi); have hcz19_0 : w18.cell? ⟨gb131, 0, none⟩ = some (.int .u64 a1_0) := (blk_cell BK131.out 0).trans rfl; have hcz19_1 : w18.cell? ⟨gb131, 1, none⟩ = some (.int .u32 a1_1) := (blk_cell BK131.out 1).trans rfl; have hcz19_2 : w18.cell? ⟨gb131, 2, none⟩ = some (.slice A1_2 l1_2.length c1_2) := (blk_cell BK131.out 2).trans rfl; have hcz19_3 : w18.cell? ⟨gb131, 3, none⟩ = some (.int .u64 a1_3) := (blk_cell BK131.out 3).trans rfl; have hfz19_0 := blk_frozen BK131.out 0; have hfz19_1 := blk_frozen BK131.out 1; have hfz19_2 := blk_frozen BK131.out 2; have hfz19_3 := blk_frozen BK131.out 3))
        go_ret2
        exact ⟨_, by first | rfl | (simp [errW_none, errW_some] <;> rfl) | (simp [*, errW_none, errW_some] <;> rfl), by (with_reducible repeat (first | apply Kd.V_alloc | apply Kd.V_drewN | apply Kd.V_drew)); exact Kd.V_mono HO0.out (fun _ hk => hk.1), by repeat (first | (with_reducible first | exact HB.out | apply below_alloc | apply pw_below_drewN | apply below_drew1 | refine below_set ?_ GE131.out) | exact HB.out)⟩
      · rw [if_neg c15] at H
        have c15b0 : decide (a1_3 ≤ a1_0) = false := decide_eq_false c15
        clear c15
        replace H := Option.bind_eq_some_iff.mp H
        obtain ⟨t136, A200, H⟩ := H
        replace H : (some (t136, 0)) = some (r1, r2) := H
        have A20 := Aside0.mk A200
        clear A200
        simp only [Option.some.injEq, Prod.mk.injEq] at H
        obtain ⟨rfl, rfl⟩ := H
        go_enter Try.func46, Try.ntmps46
        go_wp2_with (first | ((with_reducible refine gate_dst (N := 3) rfl ?_); refine box_event ?hg (N := 3) ?hd (cs := #[.int .u64 a1_0, .int .u32 a1_1, .slice A1_2 l1_2.length c1_2, .int .u64 a1_3]) (t := 29) ?hr ?_; (case hd => rfl); (case hg => rfl); (case hr => first | (go_simp; done) | (go_simp; rfl)); intro gb131 hg w21 hbox hb; have n0_ := Aside0.mk (Kd.V_below (Kd.V_elderB (by (with_reducible repeat (first | apply Kd.V_alloc | apply Kd.V_drewN | apply Kd.V_drew)); exact HO0.out) gb131 (Nat.le_of_eq hg.symm)) hb); have n1_ := Aside0.mk (Kd.V_below (Kd.V_elderB (by (with_reducible repeat (first | apply Kd.V_alloc | apply Kd.V_drewN | apply Kd.V_drew)); exact HO1_2.out) gb131 (Nat.le_of_eq hg.symm)) hb); have n2_ := Aside0.mk (below_step (by repeat (first | (with_reducible first | exact HB.out | apply below_alloc | apply pw_below_drewN | apply below_drew1) | exact HB.out)) hb); have n3_ := Aside0.mk (hbox); have n4_ := Aside0.mk ((by rw [hg]; exact (below_size (by repeat (first | (with_reducible first | exact HB.out | apply below_alloc | apply pw_below_drewN | apply below_drew1) | exact HB.out))) : w.heap.size ≤ gb131)); have n5_ := Aside0.mk ((by rw [hg]; exact (below_size (by repeat (first | (with_reducible first | exact HB.out | apply below_alloc | apply pw_below_drewN | apply below_drew1) | exact HB.out))) : w.heap.size ≤ gb131)); clear HO0; clear HO1_2; clear HB; have HO0 := n0_; have HO1_2 := n1_; have HB := n2_; have BK131 := n3_; have GW131 := n4_; have GE131 := n5_; clear n0_ n1_ n2_ n3_ n4_ n5_; clear hb hbox hg; have hcz22_0 : w21.cell? ⟨gb131, 0, none⟩ = some (.int .u64 a1_0) := (blk_cell BK131.out 0).trans rfl; have hcz22_1 : w21.cell? ⟨gb131, 1, none⟩ = some (.int .u32 a1_1) := (blk_cell BK131.out 1).trans rfl; have hcz22_2 : w21.cell? ⟨gb131, 2, none⟩ = some (.slice A1_2 l1_2.length c1_2) := (blk_cell BK131.out 2).trans rfl; have hcz22_3 : w21.cell? ⟨gb131, 3, none⟩ = some (.int .u64 a1_3) := (blk_cell BK131.out 3).trans rfl; have hfz22_0 := blk_frozen BK131.out 0; have hfz22_1 := blk_frozen BK131.out 1; have hfz22_2 := blk_frozen BK131.out 2; have hfz22_3 := blk_frozen BK131.out 3) | ((with_reducible refine gate_callee (f := 19) rfl ?_); refine goesL_ (some 9) rfl rfl Try.func19 (by kernel_rfl) rfl #[.slice A0 l0.length c0, .agg #[.int .u64 a1_0, .int .u32 a1_1]] rfl (by (try simp only [List.map_toArray, List.map_cons, List.map_nil]); first | done | rfl | (simp only [List.length_drop, List.length_take]; rfl)) ?_; (with_reducible refine (hayloftref10_Place.calls k _ _ l0 a1_0 a1_1 t132 _ ?side1 ?side2 A3.out).mono ?_); (case side1 => repeat (first | exact (Kd.V_reads' HO0.out).2.2 | (with_reducible refine Kd.C_alloc ?_ _) | (with_reducible refine Kd.C_drewN ?_ _) | (with_reducible refine Kd.C_drew ?_))); (case side2 => exact (Kd.V_reads' HO0.out).2.1); rintro e w23 ⟨rfl, hb⟩; refine ⟨_, rfl, ?_⟩; have n0_ := Aside0.mk (Kd.V_below (by (with_reducible repeat (first | apply Kd.V_alloc | apply Kd.V_drewN | apply Kd.V_drew)); exact HO0.out) hb); have n1_ := Aside0.mk (Kd.V_below (by (with_reducible repeat (first | apply Kd.V_alloc | apply Kd.V_drewN | apply Kd.V_drew)); exact HO1_2.out) hb); have n2_ := Aside0.mk (blk_below (g := gb131) (o := .cells #[.int .u64 a1_0, .int .u32 a1_1, .slice A1_2 l1_2.length c1_2, .int .u64 a1_3] 29 (0, 0)) (by (with_reducible repeat (first | refine blk_drewN ?_ _ | refine blk_drew ?_ | refine blk_alloc ?_ _)); exact BK131.out) hb); have n3_ := Aside0.mk (below_step (by repeat (first | (with_reducible first | exact HB.out | apply below_alloc | apply pw_below_drewN | apply below_drew1 | refine below_set ?_ GE131.out) | exact HB.out)) hb); clear HO0; clear HO1_2; clear BK131; clear HB; have HO0 := n0_; have HO1_2 := n1_; have BK131 := n2_; have HB := n3_; clear n0_ n1_ n2_ n3_; (try clear hb); (try clear hb2); (try clear hk); (try clear hi); have hcz24_0 : w23.cell? ⟨gb131, 0, none⟩ = some (.int .u64 a1_0) := (blk_cell BK131.out 0).trans rfl; have hcz24_1 : w23.cell? ⟨gb131, 1, none⟩ = some (.int .u32 a1_1) := (blk_cell BK131.out 1).trans rfl; have hcz24_2 : w23.cell? ⟨gb131, 2, none⟩ = some (.slice A1_2 l1_2.length c1_2) := (blk_cell BK131.out 2).trans rfl; have hcz24_3 : w23.cell? ⟨gb131, 3, none⟩ = some (.int .u64 a1_3) := (blk_cell BK131.out 3).trans rfl; have hfz24_0 := blk_frozen BK131.out 0; have hfz24_1 := blk_frozen BK131.out 1; have hfz24_2 := blk_frozen BK131.out 2; have hfz24_3 := blk_frozen BK131.out 3) | ((with_reducible refine gate_callee (f := 58) rfl ?_); refine goesL_ (some 26) rfl rfl Try.func58 (by kernel_rfl) rfl #[.slice A0 l0.length c0, .agg #[.int .u64 a1_0, .int .u32 a1_1, .slice A1_2 l1_2.length c1_2, .int .u64 a1_3]] rfl (by (try simp only [List.map_toArray, List.map_cons, List.map_nil]); first | done | rfl | (simp only [List.length_drop, List.length_take]; rfl)) ?_; (with_reducible refine (hayloftref10_Put.calls k (fun k_ => (((P0_ k_ ∨ P1_2_ k_) ∨ w.heap.size ≤ k_) ∧ k_ ≠ gb131)) _ _ l0 a1_0 a1_1 (fun k_ => (((P0_ k_ ∨ P1_2_ k_) ∨ w.heap.size ≤ k_) ∧ k_ ≠ gb131)) _ _ l1_2 a1_3 t136 _ ?side1 ?side2 A20.out).mono ?_); (case side1 => exact HO0.out); (case side2 => exact HO1_2.out); rintro e w25 ⟨v137, rfl, ho0, hb⟩; refine ⟨_, rfl, ?_⟩; have n0_ := Aside0.mk (Kd.V_elder' (by (with_reducible repeat (first | apply Kd.V_alloc | apply Kd.V_drewN | apply Kd.V_drew)); exact HO0.out) (Kd.N_base ho0) hb); have n1_ := Aside0.mk (Kd.V_elder' (by (with_reducible repeat (first | apply Kd.V_alloc | apply Kd.V_drewN | apply Kd.V_drew)); exact HO1_2.out) (Kd.N_base ho0) hb); have n2_ := Aside0.mk (Kd.N_lower (Kd.N_mono (ok' := fun k_ => ((P0_ k_ ∨ P1_2_ k_) ∨ w.heap.size ≤ k_) ∧ k_ ≠ gb131) ho0 (fun k_ hk_ => ⟨Or.elim hk_ (fun hs_ => Or.elim hs_ (fun hs_ => hs_.1) (fun hs_ => hs_.1)) (fun hn_ => (.inr (Nat.le_trans (below_size (by repeat (first | (with_reducible first | exact HB.out | apply below_alloc | apply pw_below_drewN | apply below_drew1 | refine below_set ?_ GE131.out) | exact HB.out))) hn_))), Or.elim hk_ (fun hs_ => Or.elim hs_ (fun hs_ => hs_.2) (fun hs_ => hs_.2)) (fun hn_ => (Kd.freshB (g := gb131) (o := .cells #[.int .u64 a1_0, .int .u32 a1_1, .slice A1_2 l1_2.length c1_2, .int .u64 a1_3] 29 (0, 0)) (by (with_reducible repeat (first | refine blk_drewN ?_ _ | refine blk_drew ?_ | refine blk_alloc ?_ _)); exact BK131.out) k_ hn_))⟩)) (below_size (by repeat (first | (with_reducible first | exact HB.out | apply below_alloc | apply pw_below_drewN | apply below_drew1 | refine below_set ?_ GE131.out) | exact HB.out)))); have n3_ := Aside0.mk (blk_below (g := gb131) (o := .cells #[.int .u64 a1_0, .int .u32 a1_1, .slice A1_2 l1_2.length c1_2, .int .u64 a1_3] 29 (0, 0)) (by (with_reducible repeat (first | refine blk_drewN ?_ _ | refine blk_drew ?_ | refine blk_alloc ?_ _)); exact BK131.out) hb); have n4_ := Aside0.mk (below_step (by repeat (first | (with_reducible first | exact HB.out | apply below_alloc | apply pw_below_drewN | apply below_drew1 | refine below_set ?_ GE131.out) | exact HB.out)) hb); clear HO0; clear HO1_2; clear BK131; clear HB; have HO0 := n0_; have HO1_2 := n1_; have HO138 := n2_; have BK131 := n3_; have HB := n4_; clear n0_ n1_ n2_ n3_ n4_; (try clear hb); (try clear hb2); (try clear hk); (try clear hi); (try clear ho0)))
        go_ret2
        exact ⟨_, by first | rfl | (simp [errW_none, errW_some] <;> rfl) | (simp [*, errW_none, errW_some] <;> rfl), Kd.N_V (by (with_reducible repeat (first | apply Kd.N_alloc | apply Kd.N_drewN | apply Kd.N_drew)); exact Kd.N_mono HO138.out (fun _ hk => hk.1)), by repeat (first | (with_reducible first | exact HB.out | apply below_alloc | apply pw_below_drewN | apply below_drew1 | refine below_set ?_ GE131.out) | exact HB.out)⟩

/-! ### hayloftref10_Purge: function 48 -/
def hayloftref10_Purge.l0 : Nat → List (S29) → Int → List (S29) → Int → Option ((List (S29)))
  | 0, _, _, _, _ => none
  | k + 1, x0, x1, x5, x6 => if x6 < (x0.length : Int) then (if 0 ≤ x6 then (if ((rd_T29 x0 x6).f2) = 0 then (if x5.length < 2932031007402 then (hayloftref10_Purge.l0 k x0 x1 (x5 ++ [(⟨(⟨(rd_T29 x0 x6).f0.f0, (rd_T29 x0 x6).f0.f1⟩ : S25), (rd_T29 x0 x6).f1, (rd_T29 x0 x6).f2⟩ : S29)]) (wrap64 (x6 + 1))) else (none)) else (if ((rd_T29 x0 x6).f2) > x1 then (if x5.length < 2932031007402 then (hayloftref10_Purge.l0 k x0 x1 (x5 ++ [(⟨(⟨(rd_T29 x0 x6).f0.f0, (rd_T29 x0 x6).f0.f1⟩ : S25), (rd_T29 x0 x6).f1, (rd_T29 x0 x6).f2⟩ : S29)]) (wrap64 (x6 + 1))) else (none)) else (hayloftref10_Purge.l0 k x0 x1 x5 (wrap64 (x6 + 1))))) else (none)) else (some x5)
def hayloftref10_Purge.f (k : Nat) (l0 : List (S29)) (a1 : Int) : Option ((List (S29))) := hayloftref10_Purge.l0 k l0 a1 ([] : List (S29)) 0
theorem hayloftref10_Purge.mono_l : ∀ k, (∀ y0 y1 y2 y3, LeO (hayloftref10_Purge.l0 k y0 y1 y2 y3) (hayloftref10_Purge.l0 (k + 1) y0 y1 y2 y3))
  | 0 => fun _ _ _ _ r h => by simp [hayloftref10_Purge.l0] at h
  | k + 1 => by
    have ih0 := hayloftref10_Purge.mono_l k
    · intro y0 y1 y2 y3
      unfold hayloftref10_Purge.l0
      repeat' first
      | (with_reducible exact ih0 _ _ _ _)
      | (with_reducible exact LeO.refl _)
      | (with_reducible exact LeO.none _)
      | (with_reducible refine LeO.ite ?_ ?_)
      | (with_reducible refine LeO.bind ?_ (fun _ => ?_))
      | exact ih0 _ _ _ _
      | exact LeO.none _
      | refine LeO.ite ?_ ?_
      | refine LeO.bind ?_ (fun _ => ?_)
theorem hayloftref10_Purge.mono : ∀ a0 a1 k, LeO (hayloftref10_Purge.f k a0 a1) (hayloftref10_Purge.f (k + 1) a0 a1) := by
  intro a0 a1 k
  have ih0 := hayloftref10_Purge.mono_l k
  unfold hayloftref10_Purge.f
  repeat' first
      | (with_reducible exact ih0 _ _ _ _)
      | (with_reducible exact LeO.refl _)
      | (with_reducible exact LeO.none _)
      | (with_reducible refine LeO.ite ?_ ?_)
      | (with_reducible refine LeO.bind ?_ (fun _ => ?_))
      | exact ih0 _ _ _ _
      | exact LeO.none _
      | refine LeO.ite ?_ ?_
      | refine LeO.bind ?_ (fun _ => ?_)
set_option maxHeartbeats 8000000 in
set_option maxRecDepth 100000 in
theorem hayloftref10_Purge.calls (k : Nat) (P0_ : Nat → Prop) (A0 : Option Addr) (c0 : Nat) (l0 : List (S29)) (a1 : Int) (r : List (S29)) (w : World) (hs0 : Kd.V k29 29 w w.heap.size (fun k_ => P0_ k_) (.slice A0 l0.length c0) l0) (h : hayloftref10_Purge.f k l0 a1 = some r) :
    Calls Try.prog 48 #[.slice A0 l0.length c0, .int .u64 a1] w fun e w' => ∃ v0_ : Value, e = .returned (v0_) ∧ Kd.N k29 29 w' w.heap.size (fun k_ => (P0_ k_ ∨ w.heap.size ≤ k_)) v0_ r ∧ Below w.heap.size w w' := by
  have hu29 := Try.underlying29
  have HO0 := Aside0.mk (show Kd.V k29 29 w w.heap.size (fun k_ => (P0_ k_ ∨ w.heap.size ≤ k_)) (.slice A0 l0.length c0) l0 from Kd.V_mono hs0 (fun k_ hk => .inl hk))
  have HB := Aside0.mk (Below.refl w.heap.size w)
  have H : (hayloftref10_Purge.l0 k l0 a1 ([] : List (S29)) 0) = some r := h
  clear h
  have H' := Aside0.mk H
  clear H
  go_enter Try.func48, Try.ntmps48
  go_wp2
  go_loopg [5, 6] k (fun kq v5 v6 w' => ∃ (x5_1 : List (S29)) (x6_1 : Int), v6 = .int .i64 x6_1 ∧ Aside0 (hayloftref10_Purge.l0 kq l0 a1 x5_1 x6_1 = some r) ∧ Aside0 (kq ≤ k) ∧ Aside0 (Kd.V k29 29 w' w.heap.size (fun k_ => (P0_ k_ ∨ w.heap.size ≤ k_) ∧ some k_ ≠ (v5 : Value).ownBlock) (.slice A0 l0.length c0) l0) ∧ Aside0 (Kd.N k29 29 w' w.heap.size (fun k_ => (P0_ k_ ∨ w.heap.size ≤ k_)) v5 x5_1) ∧ Aside0 (Below w.heap.size w w'))
  case atStart => exact ⟨(([] : List (S29))), (0), (by first | rfl | (simp; done) | (simp [*]; done)), H', ⟨Nat.le_refl _⟩, ⟨by (with_reducible repeat (first | apply Kd.V_alloc | apply Kd.V_drewN | apply Kd.V_drew)); exact Kd.V_mono HO0.out (fun _ hk => ⟨hk, (by simp [Value.ownBlock])⟩)⟩, ⟨by first | exact Kd.S_nil _ _ _ _ _ | exact Kd.N_nil _ _ _ _ _ | exact Kd.V_nil _ _ _ _ _ | exact Kd.Q_nil _ _ _ _ _ | exact Kd.R_nil _ _ _ _ _⟩, ⟨by repeat (first | (with_reducible first | exact HB.out | apply below_alloc | apply pw_below_drewN | apply below_drew1) | exact HB.out)⟩⟩
  case round =>
    clear H'
    try clear p2
    obtain ⟨x5_1, x6_1, rfl, HA, HK1, HO_0, HO_5, HB⟩ := hrel
    cases gk with
    | zero => exact absurd HA.out (by simp [hayloftref10_Purge.l0])
    | succ k1 =>
      have H := HA.out
      clear HA
      simp only [hayloftref10_Purge.l0] at H
      by_cases c3 : x6_1 < (l0.length : Int)
      · rw [if_pos c3] at H
        have c3b0 : decide (x6_1 < (l0.length : Int)) = true := decide_eq_true c3
        clear c3
        by_cases c4 : 0 ≤ x6_1
        · rw [if_pos c4] at H
          have c4b0 : decide (0 ≤ x6_1) = true := decide_eq_true c4
          clear c4
          by_cases c5 : ((rd_T29 l0 x6_1).f2) = 0
          · rw [if_pos c5] at H
            have c5b0 : (((rd_T29 l0 x6_1).f2) == 0) = true := beq_iff_eq.mpr c5
            have c5b1 : (((rd_T29 l0 x6_1).f2) != 0) = false := bne_eq_false_iff_eq.mpr c5
            clear c5
            by_cases c6 : x5_1.length < 2932031007402
            · rw [if_pos c6] at H
              have LMc6 := Aside0.mk c6
              clear c6
              obtain ⟨y141, hy141⟩ : ∃ y_ : List (S29), y_ = (x5_1 ++ [(⟨(⟨(rd_T29 l0 x6_1).f0.f0, (rd_T29 l0 x6_1).f0.f1⟩ : S25), (rd_T29 l0 x6_1).f1, (rd_T29 l0 x6_1).f2⟩ : S29)]) := ⟨_, rfl⟩
              replace H : (hayloftref10_Purge.l0 k1 l0 a1 y141 (wrap64 (x6_1 + 1))) = some r := by first | (rw [hy141]; with_reducible exact H) | (have H2_ := (Option.bind_some _ _).symm.trans H; rw [hy141]; with_reducible exact H2_) | (have H2_ := (Option.bind_some _ _).symm.trans H; with_reducible exact H2_) | with_reducible exact H | (rw [hy141]; exact H) | exact H
              have Ny141 := Aside0.mk hy141
              clear hy141
              have H' := Aside0.mk H
              clear H
              have p139 : 0 ≤ (x6_1 : Int) := of_decide_eq_true (by first | (with_reducible assumption) | assumption)
              have q139 : x6_1 < (l0.length : Int) := of_decide_eq_true (by first | (with_reducible assumption) | assumption)
              obtain ⟨ad139, A139_2, c139_2, e139, hx139_0, hx139_1, hx139_2, hx139_3, hl139_2, hi139_2⟩ := at_T29 (Kd.V_reads' HO_0.out).2.2 x6_1 p139 q139
              cases e139
              obtain ⟨ce139, hce139, hMe139, hcc139⟩ := Kd.V_get HO_0.out z29 x6_1 p139 (by first | exact q139 | exact of_decide_eq_true (by first | (with_reducible assumption) | assumption) | (have e_ := (Kd.V_reads' HO_0.out).1; omega))
              obtain ⟨ua139_2, uc139_2, rfl, ul139_2, ge139_2⟩ := k29_openF hMe139
              have hv139_2 := hcc139 2 _ rfl
              rw [add_field _ _ 2 (by omega)] at hv139_2
              replace hv139_2 := Option.some.inj (hv139_2.symm.trans hx139_2)
              injection hv139_2 with hva_ hvn_ hvc_
              rw [hva_] at ge139_2
              rw [hvc_] at ul139_2
              have HL139_2 := Aside0.mk (show Kd.V k69 69 _ w.heap.size _ _ ((rd_T29 l0 x6_1).f1) from Kd.V_mk ul139_2 ge139_2)
              clear hva_ hvn_ hvc_ ge139_2 ul139_2
              clear hcc139 hce139
              have HR139_2 := Aside0.mk hi139_2
              have HC139_2 := Aside0.mk hl139_2
              clear hi139_2 hl139_2
              replace p139 := eq_true p139
              replace q139 := eq_true q139
              have p140 : 0 ≤ (x6_1 : Int) := of_decide_eq_true (by first | (with_reducible assumption) | assumption)
              have q140 : x6_1 < (l0.length : Int) := of_decide_eq_true (by first | (with_reducible assumption) | assumption)
              obtain ⟨ad140, A140_2, c140_2, e140, hx140_0, hx140_1, hx140_2, hx140_3, hl140_2, hi140_2⟩ := at_T29 (Kd.V_reads' HO_0.out).2.2 x6_1 p140 q140
              obtain rfl : ad139 = ad140 := (by injection e140)
              obtain ⟨ce140, hce140, hMe140, hcc140⟩ := Kd.V_get HO_0.out z29 x6_1 p140 (by first | exact q140 | exact of_decide_eq_true (by first | (with_reducible assumption) | assumption) | (have e_ := (Kd.V_reads' HO_0.out).1; omega))
              obtain ⟨ua140_2, uc140_2, rfl, ul140_2, ge140_2⟩ := k29_openF hMe140
              have hv140_2 := hcc140 2 _ rfl
              rw [add_field _ _ 2 (by omega)] at hv140_2
              replace hv140_2 := Option.some.inj (hv140_2.symm.trans hx140_2)
              injection hv140_2 with hva_ hvn_ hvc_
              rw [hva_] at ge140_2
              rw [hvc_] at ul140_2
              have HL140_2 := Aside0.mk (show Kd.V k69 69 _ w.heap.size _ _ ((rd_T29 l0 x6_1).f1) from Kd.V_mk ul140_2 ge140_2)
              clear hva_ hvn_ hvc_ ge140_2 ul140_2
              clear hcc140 hce140
              have HR140_2 := Aside0.mk hi140_2
              have HC140_2 := Aside0.mk hl140_2
              clear hi140_2 hl140_2
              replace p140 := eq_true p140
              replace q140 := eq_true q140
              have ea_ := Option.some.inj (hx139_2.symm.trans hx140_2)
              injection ea_ with ea_ en_ ec_
              subst ea_
              subst ec_
              clear en_
              go_wp2_with (first | ((with_reducible refine gate_builtin (b := .append) (xs := #[.tmp 28, .tmp 33]) rfl ?_); at_builtin; refine Kd.N_append k29 (w0 := w) w.heap.size rfl (.tmp 28) (.tmp 33) 38 29 (.agg #[(.int .u64 0), (.int .u32 0), (.slice none 0 0), (.int .u64 0)]) 48 rfl Try.underlying38 info29 rfl (by decide) (by omega) u5 x5_1 (⟨(⟨(rd_T29 l0 x6_1).f0.f0, (rd_T29 l0 x6_1).f0.f1⟩ : S25), (rd_T29 l0 x6_1).f1, (rd_T29 l0 x6_1).f2⟩ : S29) [.int .u64 ((rd_T29 l0 x6_1).f0.f0), .int .u32 ((rd_T29 l0 x6_1).f0.f1), .slice A139_2 ((rd_T29 l0 x6_1).f1).length c139_2, .int .u64 ((rd_T29 l0 x6_1).f2)] (fun k_ => (P0_ k_ ∨ w.heap.size ≤ k_)) (fun k_ => ((fun k_ => (P0_ k_ ∨ w.heap.size ≤ k_))) k_ ∧ some k_ ≠ (u5 : Value).ownBlock) rfl rfl ?aP (fun _ hk => hk) ?aF ?aO ?aB ?aS ?aL ?_; (case aP => exact (k29_mkF _ _ (⟨(⟨(rd_T29 l0 x6_1).f0.f0, (rd_T29 l0 x6_1).f0.f1⟩ : S25), (rd_T29 l0 x6_1).f1, (rd_T29 l0 x6_1).f2⟩ : S29) (Kd.V_reads' (Kd.V_mono (ok' := (fun k_ => ((fun k_ => (P0_ k_ ∨ w.heap.size ≤ k_))) k_ ∧ some k_ ≠ (u5 : Value).ownBlock)) (HL140_2.out) (fun k_ hk => ⟨hk.1, hk.2⟩))).2.1 (Kd.V_F (Kd.V_mono (ok' := (fun k_ => ((fun k_ => (P0_ k_ ∨ w.heap.size ≤ k_))) k_ ∧ some k_ ≠ (u5 : Value).ownBlock)) (HL140_2.out) (fun k_ hk => ⟨hk.1, hk.2⟩))))); (case aB => exact (by repeat (first | (with_reducible first | exact HB.out | apply below_alloc | apply pw_below_drewN | apply below_drew1) | exact HB.out))); (case aF => exact (fun k_ hk => (.inr (Nat.le_trans (below_size (by repeat (first | (with_reducible first | exact HB.out | apply below_alloc | apply pw_below_drewN | apply below_drew1) | exact HB.out))) hk)))); (case aO => exact (by (with_reducible repeat (first | apply Kd.N_alloc | apply Kd.N_drewN | apply Kd.N_drew)); exact HO_5.out)); (case aS => exact (below_size (by repeat (first | (with_reducible first | exact HB.out | apply below_alloc | apply pw_below_drewN | apply below_drew1) | exact HB.out)))); (case aL => have := LMc6.out; omega); intro v142 w7 ho hb hg hat; rw [← Ny141.out] at ho; have n0_ := Aside0.mk (Kd.V_afterv (ok := (fun k_ => (P0_ k_ ∨ w.heap.size ≤ k_))) (by (with_reducible repeat (first | apply Kd.V_alloc | apply Kd.V_drewN | apply Kd.V_drew)); exact HO_0.out) hg hat); have n1_ := Aside0.mk (Kd.V_afterv (ok := (fun k_ => (P0_ k_ ∨ w.heap.size ≤ k_))) (by (with_reducible repeat (first | apply Kd.V_alloc | apply Kd.V_drewN | apply Kd.V_drew)); exact HL139_2.out) hg hat); have n2_ := Aside0.mk (Kd.V_afterv (ok := (fun k_ => (P0_ k_ ∨ w.heap.size ≤ k_))) (by (with_reducible repeat (first | apply Kd.V_alloc | apply Kd.V_drewN | apply Kd.V_drew)); exact HL140_2.out) hg hat); have n3_ := Aside0.mk (hb); have n4_ := Aside0.mk (ho); clear HO_0; clear HL139_2; clear HL140_2; clear HB; clear HO_5; have HO_0 := n0_; have HL139_2 := n1_; have HL140_2 := n2_; have HB := n3_; have HO143 := n4_; clear n0_ n1_ n2_ n3_ n4_; clear ho hb hg hat))
              go_roundg k1
              case measure => have := HK1.out; omega
              case rel => exact ⟨(y141), (wrap64 (x6_1 + 1)), (by first | rfl | (simp; done) | (simp [*]; done)), H', ⟨by have := HK1.out; omega⟩, ⟨by (with_reducible repeat (first | apply Kd.V_alloc | apply Kd.V_drewN | apply Kd.V_drew)); exact HO_0.out⟩, ⟨by (with_reducible repeat (first | apply Kd.N_alloc | apply Kd.N_drewN | apply Kd.N_drew)); exact HO143.out⟩, ⟨by repeat (first | (with_reducible first | exact HB.out | apply below_alloc | apply pw_below_drewN | apply below_drew1) | exact HB.out)⟩⟩
            · rw [if_neg c6] at H
              exact absurd H (by simp)
          · rw [if_neg c5] at H
            have c5b0 : (((rd_T29 l0 x6_1).f2) == 0) = false := beq_eq_false_iff_ne.mpr c5
            have c5b1 : (((rd_T29 l0 x6_1).f2) != 0) = true := bne_iff_ne.mpr c5
            by_cases c8 : ((rd_T29 l0 x6_1).f2) > a1
            · rw [if_pos c8] at H
              have c8b0 : decide (a1 < ((rd_T29 l0 x6_1).f2)) = true := decide_eq_true c8
              clear c8
              by_cases c9 : x5_1.length < 2932031007402
              · rw [if_pos c9] at H
                have LMc9 := Aside0.mk c9
                clear c9
                obtain ⟨y146, hy146⟩ : ∃ y_ : List (S29), y_ = (x5_1 ++ [(⟨(⟨(rd_T29 l0 x6_1).f0.f0, (rd_T29 l0 x6_1).f0.f1⟩ : S25), (rd_T29 l0 x6_1).f1, (rd_T29 l0 x6_1).f2⟩ : S29)]) := ⟨_, rfl⟩
                replace H : (hayloftref10_Purge.l0 k1 l0 a1 y146 (wrap64 (x6_1 + 1))) = some r := by first | (rw [hy146]; with_reducible exact H) | (have H2_ := (Option.bind_some _ _).symm.trans H; rw [hy146]; with_reducible exact H2_) | (have H2_ := (Option.bind_some _ _).symm.trans H; with_reducible exact H2_) | with_reducible exact H | (rw [hy146]; exact H) | exact H
                have Ny146 := Aside0.mk hy146
                clear hy146
                have H' := Aside0.mk H
                clear H
                have p139 : 0 ≤ (x6_1 : Int) := of_decide_eq_true (by first | (with_reducible assumption) | assumption)
                have q139 : x6_1 < (l0.length : Int) := of_decide_eq_true (by first | (with_reducible assumption) | assumption)
                obtain ⟨ad139, A139_2, c139_2, e139, hx139_0, hx139_1, hx139_2, hx139_3, hl139_2, hi139_2⟩ := at_T29 (Kd.V_reads' HO_0.out).2.2 x6_1 p139 q139
                cases e139
                obtain ⟨ce139, hce139, hMe139, hcc139⟩ := Kd.V_get HO_0.out z29 x6_1 p139 (by first | exact q139 | exact of_decide_eq_true (by first | (with_reducible assumption) | assumption) | (have e_ := (Kd.V_reads' HO_0.out).1; omega))
                obtain ⟨ua139_2, uc139_2, rfl, ul139_2, ge139_2⟩ := k29_openF hMe139
                have hv139_2 := hcc139 2 _ rfl
                rw [add_field _ _ 2 (by omega)] at hv139_2
                replace hv139_2 := Option.some.inj (hv139_2.symm.trans hx139_2)
                injection hv139_2 with hva_ hvn_ hvc_
                rw [hva_] at ge139_2
                rw [hvc_] at ul139_2
                have HL139_2 := Aside0.mk (show Kd.V k69 69 _ w.heap.size _ _ ((rd_T29 l0 x6_1).f1) from Kd.V_mk ul139_2 ge139_2)
                clear hva_ hvn_ hvc_ ge139_2 ul139_2
                clear hcc139 hce139
                have HR139_2 := Aside0.mk hi139_2
                have HC139_2 := Aside0.mk hl139_2
                clear hi139_2 hl139_2
                replace p139 := eq_true p139
                replace q139 := eq_true q139
                have p144 : 0 ≤ (x6_1 : Int) := of_decide_eq_true (by first | (with_reducible assumption) | assumption)
                have q144 : x6_1 < (l0.length : Int) := of_decide_eq_true (by first | (with_reducible assumption) | assumption)
                obtain ⟨ad144, A144_2, c144_2, e144, hx144_0, hx144_1, hx144_2, hx144_3, hl144_2, hi144_2⟩ := at_T29 (Kd.V_reads' HO_0.out).2.2 x6_1 p144 q144
                obtain rfl : ad139 = ad144 := (by injection e144)
                obtain ⟨ce144, hce144, hMe144, hcc144⟩ := Kd.V_get HO_0.out z29 x6_1 p144 (by first | exact q144 | exact of_decide_eq_true (by first | (with_reducible assumption) | assumption) | (have e_ := (Kd.V_reads' HO_0.out).1; omega))
                obtain ⟨ua144_2, uc144_2, rfl, ul144_2, ge144_2⟩ := k29_openF hMe144
                have hv144_2 := hcc144 2 _ rfl
                rw [add_field _ _ 2 (by omega)] at hv144_2
                replace hv144_2 := Option.some.inj (hv144_2.symm.trans hx144_2)
                injection hv144_2 with hva_ hvn_ hvc_
                rw [hva_] at ge144_2
                rw [hvc_] at ul144_2
                have HL144_2 := Aside0.mk (show Kd.V k69 69 _ w.heap.size _ _ ((rd_T29 l0 x6_1).f1) from Kd.V_mk ul144_2 ge144_2)
                clear hva_ hvn_ hvc_ ge144_2 ul144_2
                clear hcc144 hce144
                have HR144_2 := Aside0.mk hi144_2
                have HC144_2 := Aside0.mk hl144_2
                clear hi144_2 hl144_2
                replace p144 := eq_true p144
                replace q144 := eq_true q144
                have ea_ := Option.some.inj (hx139_2.symm.trans hx144_2)
                injection ea_ with ea_ en_ ec_
                subst ea_
                subst ec_
                clear en_
                have p145 : 0 ≤ (x6_1 : Int) := of_decide_eq_true (by first | (with_reducible assumption) | assumption)
                have q145 : x6_1 < (l0.length : Int) := of_decide_eq_true (by first | (with_reducible assumption) | assumption)
                obtain ⟨ad145, A145_2, c145_2, e145, hx145_0, hx145_1, hx145_2, hx145_3, hl145_2, hi145_2⟩ := at_T29 (Kd.V_reads' HO_0.out).2.2 x6_1 p145 q145
                obtain rfl : ad139 = ad145 := (by injection e145)
                obtain ⟨ce145, hce145, hMe145, hcc145⟩ := Kd.V_get HO_0.out z29 x6_1 p145 (by first | exact q145 | exact of_decide_eq_true (by first | (with_reducible assumption) | assumption) | (have e_ := (Kd.V_reads' HO_0.out).1; omega))
                obtain ⟨ua145_2, uc145_2, rfl, ul145_2, ge145_2⟩ := k29_openF hMe145
                have hv145_2 := hcc145 2 _ rfl
                rw [add_field _ _ 2 (by omega)] at hv145_2
                replace hv145_2 := Option.some.inj (hv145_2.symm.trans hx145_2)
                injection hv145_2 with hva_ hvn_ hvc_
                rw [hva_] at ge145_2
                rw [hvc_] at ul145_2
                have HL145_2 := Aside0.mk (show Kd.V k69 69 _ w.heap.size _ _ ((rd_T29 l0 x6_1).f1) from Kd.V_mk ul145_2 ge145_2)
                clear hva_ hvn_ hvc_ ge145_2 ul145_2
                clear hcc145 hce145
                have HR145_2 := Aside0.mk hi145_2
                have HC145_2 := Aside0.mk hl145_2
                clear hi145_2 hl145_2
                replace p145 := eq_true p145
                replace q145 := eq_true q145
                have ea_ := Option.some.inj (hx139_2.symm.trans hx145_2)
                injection ea_ with ea_ en_ ec_
                subst ea_
                subst ec_
                clear en_
                go_wp2_with (first | ((with_reducible refine gate_builtin (b := .append) (xs := #[.tmp 28, .tmp 33]) rfl ?_); at_builtin; refine Kd.N_append k29 (w0 := w) w.heap.size rfl (.tmp 28) (.tmp 33) 38 29 (.agg #[(.int .u64 0), (.int .u32 0), (.slice none 0 0), (.int .u64 0)]) 48 rfl Try.underlying38 info29 rfl (by decide) (by omega) u5 x5_1 (⟨(⟨(rd_T29 l0 x6_1).f0.f0, (rd_T29 l0 x6_1).f0.f1⟩ : S25), (rd_T29 l0 x6_1).f1, (rd_T29 l0 x6_1).f2⟩ : S29) [.int .u64 ((rd_T29 l0 x6_1).f0.f0), .int .u32 ((rd_T29 l0 x6_1).f0.f1), .slice A139_2 ((rd_T29 l0 x6_1).f1).length c139_2, .int .u64 ((rd_T29 l0 x6_1).f2)] (fun k_ => (P0_ k_ ∨ w.heap.size ≤ k_)) (fun k_ => ((fun k_ => (P0_ k_ ∨ w.heap.size ≤ k_))) k_ ∧ some k_ ≠ (u5 : Value).ownBlock) rfl rfl ?aP (fun _ hk => hk) ?aF ?aO ?aB ?aS ?aL ?_; (case aP => exact (k29_mkF _ _ (⟨(⟨(rd_T29 l0 x6_1).f0.f0, (rd_T29 l0 x6_1).f0.f1⟩ : S25), (rd_T29 l0 x6_1).f1, (rd_T29 l0 x6_1).f2⟩ : S29) (Kd.V_reads' (Kd.V_mono (ok' := (fun k_ => ((fun k_ => (P0_ k_ ∨ w.heap.size ≤ k_))) k_ ∧ some k_ ≠ (u5 : Value).ownBlock)) (HL145_2.out) (fun k_ hk => ⟨hk.1, hk.2⟩))).2.1 (Kd.V_F (Kd.V_mono (ok' := (fun k_ => ((fun k_ => (P0_ k_ ∨ w.heap.size ≤ k_))) k_ ∧ some k_ ≠ (u5 : Value).ownBlock)) (HL145_2.out) (fun k_ hk => ⟨hk.1, hk.2⟩))))); (case aB => exact (by repeat (first | (with_reducible first | exact HB.out | apply below_alloc | apply pw_below_drewN | apply below_drew1) | exact HB.out))); (case aF => exact (fun k_ hk => (.inr (Nat.le_trans (below_size (by repeat (first | (with_reducible first | exact HB.out | apply below_alloc | apply pw_below_drewN | apply below_drew1) | exact HB.out))) hk)))); (case aO => exact (by (with_reducible repeat (first | apply Kd.N_alloc | apply Kd.N_drewN | apply Kd.N_drew)); exact HO_5.out)); (case aS => exact (below_size (by repeat (first | (with_reducible first | exact HB.out | apply below_alloc | apply pw_below_drewN | apply below_drew1) | exact HB.out)))); (case aL => have := LMc9.out; omega); intro v147 w10 ho hb hg hat; rw [← Ny146.out] at ho; have n0_ := Aside0.mk (Kd.V_afterv (ok := (fun k_ => (P0_ k_ ∨ w.heap.size ≤ k_))) (by (with_reducible repeat (first | apply Kd.V_alloc | apply Kd.V_drewN | apply Kd.V_drew)); exact HO_0.out) hg hat); have n1_ := Aside0.mk (Kd.V_afterv (ok := (fun k_ => (P0_ k_ ∨ w.heap.size ≤ k_))) (by (with_reducible repeat (first | apply Kd.V_alloc | apply Kd.V_drewN | apply Kd.V_drew)); exact HL139_2.out) hg hat); have n2_ := Aside0.mk (Kd.V_afterv (ok := (fun k_ => (P0_ k_ ∨ w.heap.size ≤ k_))) (by (with_reducible repeat (first | apply Kd.V_alloc | apply Kd.V_drewN | apply Kd.V_drew)); exact HL144_2.out) hg hat); have n3_ := Aside0.mk (Kd.V_afterv (ok := (fun k_ => (P0_ k_ ∨ w.heap.size ≤ k_))) (by (with_reducible repeat (first | apply Kd.V_alloc | apply Kd.V_drewN | apply Kd.V_drew)); exact HL145_2.out) hg hat); have n4_ := Aside0.mk (hb); have n5_ := Aside0.mk (ho); clear HO_0; clear HL139_2; clear HL144_2; clear HL145_2; clear HB; clear HO_5; have HO_0 := n0_; have HL139_2 := n1_; have HL144_2 := n2_; have HL145_2 := n3_; have HB := n4_; have HO148 := n5_; clear n0_ n1_ n2_ n3_ n4_ n5_; clear ho hb hg hat))
                go_roundg k1
                case measure => have := HK1.out; omega
                case rel => exact ⟨(y146), (wrap64 (x6_1 + 1)), (by first | rfl | (simp; done) | (simp [*]; done)), H', ⟨by have := HK1.out; omega⟩, ⟨by (with_reducible repeat (first | apply Kd.V_alloc | apply Kd.V_drewN | apply Kd.V_drew)); exact HO_0.out⟩, ⟨by (with_reducible repeat (first | apply Kd.N_alloc | apply Kd.N_drewN | apply Kd.N_drew)); exact HO148.out⟩, ⟨by repeat (first | (with_reducible first | exact HB.out | apply below_alloc | apply pw_below_drewN | apply below_drew1) | exact HB.out)⟩⟩
              · rw [if_neg c9] at H
                exact absurd H (by simp)
            · rw [if_neg c8] at H
              have c8b0 : decide (a1 < ((rd_T29 l0 x6_1).f2)) = false := decide_eq_false c8
              clear c8
              have H' := Aside0.mk H
              clear H
              have p139 : 0 ≤ (x6_1 : Int) := of_decide_eq_true (by first | (with_reducible assumption) | assumption)
              have q139 : x6_1 < (l0.length : Int) := of_decide_eq_true (by first | (with_reducible assumption) | assumption)
              obtain ⟨ad139, A139_2, c139_2, e139, hx139_0, hx139_1, hx139_2, hx139_3, hl139_2, hi139_2⟩ := at_T29 (Kd.V_reads' HO_0.out).2.2 x6_1 p139 q139
              cases e139
              obtain ⟨ce139, hce139, hMe139, hcc139⟩ := Kd.V_get HO_0.out z29 x6_1 p139 (by first | exact q139 | exact of_decide_eq_true (by first | (with_reducible assumption) | assumption) | (have e_ := (Kd.V_reads' HO_0.out).1; omega))
              obtain ⟨ua139_2, uc139_2, rfl, ul139_2, ge139_2⟩ := k29_openF hMe139
              have hv139_2 := hcc139 2 _ rfl
              rw [add_field _ _ 2 (by omega)] at hv139_2
              replace hv139_2 := Option.some.inj (hv139_2.symm.trans hx139_2)
              injection hv139_2 with hva_ hvn_ hvc_
              rw [hva_] at ge139_2
              rw [hvc_] at ul139_2
              have HL139_2 := Aside0.mk (show Kd.V k69 69 _ w.heap.size _ _ ((rd_T29 l0 x6_1).f1) from Kd.V_mk ul139_2 ge139_2)
              clear hva_ hvn_ hvc_ ge139_2 ul139_2
              clear hcc139 hce139
              have HR139_2 := Aside0.mk hi139_2
              have HC139_2 := Aside0.mk hl139_2
              clear hi139_2 hl139_2
              replace p139 := eq_true p139
              replace q139 := eq_true q139
              have p144 : 0 ≤ (x6_1 : Int) := of_decide_eq_true (by first | (with_reducible assumption) | assumption)
              have q144 : x6_1 < (l0.length : Int) := of_decide_eq_true (by first | (with_reducible assumption) | assumption)
              obtain ⟨ad144, A144_2, c144_2, e144, hx144_0, hx144_1, hx144_2, hx144_3, hl144_2, hi144_2⟩ := at_T29 (Kd.V_reads' HO_0.out).2.2 x6_1 p144 q144
              obtain rfl : ad139 = ad144 := (by injection e144)
              obtain ⟨ce144, hce144, hMe144, hcc144⟩ := Kd.V_get HO_0.out z29 x6_1 p144 (by first | exact q144 | exact of_decide_eq_true (by first | (with_reducible assumption) | assumption) | (have e_ := (Kd.V_reads' HO_0.out).1; omega))
              obtain ⟨ua144_2, uc144_2, rfl, ul144_2, ge144_2⟩ := k29_openF hMe144
              have hv144_2 := hcc144 2 _ rfl
              rw [add_field _ _ 2 (by omega)] at hv144_2
              replace hv144_2 := Option.some.inj (hv144_2.symm.trans hx144_2)
              injection hv144_2 with hva_ hvn_ hvc_
              rw [hva_] at ge144_2
              rw [hvc_] at ul144_2
              have HL144_2 := Aside0.mk (show Kd.V k69 69 _ w.heap.size _ _ ((rd_T29 l0 x6_1).f1) from Kd.V_mk ul144_2 ge144_2)
              clear hva_ hvn_ hvc_ ge144_2 ul144_2
              clear hcc144 hce144
              have HR144_2 := Aside0.mk hi144_2
              have HC144_2 := Aside0.mk hl144_2
              clear hi144_2 hl144_2
              replace p144 := eq_true p144
              replace q144 := eq_true q144
              have ea_ := Option.some.inj (hx139_2.symm.trans hx144_2)
              injection ea_ with ea_ en_ ec_
              subst ea_
              subst ec_
              clear en_
              go_wp2
              go_roundg k1
              case measure => have := HK1.out; omega
              case rel => exact ⟨(x5_1), (wrap64 (x6_1 + 1)), (by first | rfl | (simp; done) | (simp [*]; done)), H', ⟨by have := HK1.out; omega⟩, ⟨by (with_reducible repeat (first | apply Kd.V_alloc | apply Kd.V_drewN | apply Kd.V_drew)); exact HO_0.out⟩, ⟨by (with_reducible repeat (first | apply Kd.N_alloc | apply Kd.N_drewN | apply Kd.N_drew)); exact HO_5.out⟩, ⟨by repeat (first | (with_reducible first | exact HB.out | apply below_alloc | apply pw_below_drewN | apply below_drew1) | exact HB.out)⟩⟩
        · rw [if_neg c4] at H
          exact absurd H (by simp)
      · rw [if_neg c3] at H
        have c3b0 : decide (x6_1 < (l0.length : Int)) = false := decide_eq_false c3
        clear c3
        obtain rfl := Option.some.inj H
        go_wp2
        go_ret
        exact ⟨_, by first | rfl | (simp [errW_none, errW_some] <;> rfl) | (simp [*, errW_none, errW_some] <;> rfl), by (with_reducible repeat (first | apply Kd.N_alloc | apply Kd.N_drewN | apply Kd.N_drew)); exact HO_5.out, by repeat (first | (with_reducible first | exact HB.out | apply below_alloc | apply pw_below_drewN | apply below_drew1) | exact HB.out)⟩

/-! ### hayloftref10_Seen: function 15 -/
def hayloftref10_Seen.f (a0_0 : Int) (a0_1 : Int) (l0_2 : List (S69)) (a0_3 : Int) (a1 : Int) : Option (Bool) := if a0_0 > a1 then (some false) else (if a0_3 = 0 then (some true) else (some (decide (a1 < a0_3))))
set_option maxHeartbeats 8000000 in
set_option maxRecDepth 100000 in
theorem hayloftref10_Seen.calls (a0_0 : Int) (a0_1 : Int) (A0_2 : Option Addr) (c0_2 : Nat) (l0_2 : List (S69)) (a0_3 : Int) (a1 : Int) (r : Bool) (w : World) (hr0_2 : Kd.C k69 w A0_2 l0_2.length l0_2) (hc0_2 : l0_2.length ≤ c0_2) (h : hayloftref10_Seen.f a0_0 a0_1 l0_2 a0_3 a1 = some r) :
    Calls Try.prog 15 #[.agg #[.int .u64 a0_0, .int .u32 a0_1, .slice A0_2 l0_2.length c0_2, .int .u64 a0_3], .int .u64 a1] w fun e w' => e = .returned (.bool r) ∧ Below w.heap.size w w' := by
  have hu29 := Try.underlying29
  have HR0_2 := Aside0.mk hr0_2
  have HC0_2 := Aside0.mk hc0_2
  clear hr0_2 hc0_2
  have HB := Aside0.mk (Below.refl w.heap.size w)
  have H : (if a0_0 > a1 then (some false) else (if a0_3 = 0 then (some true) else (some (decide (a1 < a0_3))))) = some r := h
  clear h
  by_cases c3 : a0_0 > a1
  · rw [if_pos c3] at H
    have c3b0 : decide (a1 < a0_0) = true := decide_eq_true c3
    clear c3
    obtain rfl := Option.some.inj H
    go_enter Try.func15, Try.ntmps15
    go_wp2_with (first | ((with_reducible refine gate_dst (N := 2) rfl ?_); refine box_event ?hg (N := 2) ?hd (cs := #[.int .u64 a0_0, .int .u32 a0_1, .slice A0_2 l0_2.length c0_2, .int .u64 a0_3]) (t := 29) ?hr ?_; (case hd => rfl); (case hg => rfl); (case hr => first | (go_simp; done) | (go_simp; rfl)); intro gb149 hg w4 hbox hb; have n0_ := Aside0.mk (below_step (by repeat (first | (with_reducible first | exact HB.out | apply below_alloc | apply pw_below_drewN | apply below_drew1) | exact HB.out)) hb); have n1_ := Aside0.mk (hbox); have n2_ := Aside0.mk ((by rw [hg]; exact (below_size (by repeat (first | (with_reducible first | exact HB.out | apply below_alloc | apply pw_below_drewN | apply below_drew1) | exact HB.out))) : w.heap.size ≤ gb149)); have n3_ := Aside0.mk ((by rw [hg]; exact (below_size (by repeat (first | (with_reducible first | exact HB.out | apply below_alloc | apply pw_below_drewN | apply below_drew1) | exact HB.out))) : w.heap.size ≤ gb149)); clear HB; have HB := n0_; have BK149 := n1_; have GW149 := n2_; have GE149 := n3_; clear n0_ n1_ n2_ n3_; clear hb hbox hg; have hcz5_0 : w4.cell? ⟨gb149, 0, none⟩ = some (.int .u64 a0_0) := (blk_cell BK149.out 0).trans rfl; have hcz5_1 : w4.cell? ⟨gb149, 1, none⟩ = some (.int .u32 a0_1) := (blk_cell BK149.out 1).trans rfl; have hcz5_2 : w4.cell? ⟨gb149, 2, none⟩ = some (.slice A0_2 l0_2.length c0_2) := (blk_cell BK149.out 2).trans rfl; have hcz5_3 : w4.cell? ⟨gb149, 3, none⟩ = some (.int .u64 a0_3) := (blk_cell BK149.out 3).trans rfl; have hfz5_0 := blk_frozen BK149.out 0; have hfz5_1 := blk_frozen BK149.out 1; have hfz5_2 := blk_frozen BK149.out 2; have hfz5_3 := blk_frozen BK149.out 3))
    go_ret
    exact ⟨by first | rfl | (simp [errW_none, errW_some] <;> rfl) | (simp [*, errW_none, errW_some] <;> rfl), by repeat (first | (with_reducible first | exact HB.out | apply below_alloc | apply pw_below_drewN | apply below_drew1 | refine below_set ?_ GE149.out) | exact HB.out)⟩
  · rw [if_neg c3] at H
    have c3b0 : decide (a1 < a0_0) = false := decide_eq_false c3
    clear c3
    by_cases c6 : a0_3 = 0
    · rw [if_pos c6] at H
      have c6b0 : (a0_3 == 0) = true := beq_iff_eq.mpr c6
      have c6b1 : (a0_3 != 0) = false := bne_eq_false_iff_eq.mpr c6
      clear c6
      obtain rfl := Option.some.inj H
      go_enter Try.func15, Try.ntmps15
      go_wp2_with (first | ((with_reducible refine gate_dst (N := 2) rfl ?_); refine box_event ?hg (N := 2) ?hd (cs := #[.int .u64 a0_0, .int .u32 a0_1, .slice A0_2 l0_2.length c0_2, .int .u64 a0_3]) (t := 29) ?hr ?_; (case hd => rfl); (case hg => rfl); (case hr => first | (go_simp; done) | (go_simp; rfl)); intro gb149 hg w7 hbox hb; have n0_ := Aside0.mk (below_step (by repeat (first | (with_reducible first | exact HB.out | apply below_alloc | apply pw_below_drewN | apply below_drew1) | exact HB.out)) hb); have n1_ := Aside0.mk (hbox); have n2_ := Aside0.mk ((by rw [hg]; exact (below_size (by repeat (first | (with_reducible first | exact HB.out | apply below_alloc | apply pw_below_drewN | apply below_drew1) | exact HB.out))) : w.heap.size ≤ gb149)); have n3_ := Aside0.mk ((by rw [hg]; exact (below_size (by repeat (first | (with_reducible first | exact HB.out | apply below_alloc | apply pw_below_drewN | apply below_drew1) | exact HB.out))) : w.heap.size ≤ gb149)); clear HB; have HB := n0_; have BK149 := n1_; have GW149 := n2_; have GE149 := n3_; clear n0_ n1_ n2_ n3_; clear hb hbox hg; have hcz8_0 : w7.cell? ⟨gb149, 0, none⟩ = some (.int .u64 a0_0) := (blk_cell BK149.out 0).trans rfl; have hcz8_1 : w7.cell? ⟨gb149, 1, none⟩ = some (.int .u32 a0_1) := (blk_cell BK149.out 1).trans rfl; have hcz8_2 : w7.cell? ⟨gb149, 2, none⟩ = some (.slice A0_2 l0_2.length c0_2) := (blk_cell BK149.out 2).trans rfl; have hcz8_3 : w7.cell? ⟨gb149, 3, none⟩ = some (.int .u64 a0_3) := (blk_cell BK149.out 3).trans rfl; have hfz8_0 := blk_frozen BK149.out 0; have hfz8_1 := blk_frozen BK149.out 1; have hfz8_2 := blk_frozen BK149.out 2; have hfz8_3 := blk_frozen BK149.out 3))
      go_ret
      exact ⟨by first | rfl | (simp [errW_none, errW_some] <;> rfl) | (simp [*, errW_none, errW_some] <;> rfl), by repeat (first | (with_reducible first | exact HB.out | apply below_alloc | apply pw_below_drewN | apply below_drew1 | refine below_set ?_ GE149.out) | exact HB.out)⟩
    · rw [if_neg c6] at H
      have c6b0 : (a0_3 == 0) = false := beq_eq_false_iff_ne.mpr c6
      have c6b1 : (a0_3 != 0) = true := bne_iff_ne.mpr c6
      obtain rfl := Option.some.inj H
      go_enter Try.func15, Try.ntmps15
      go_wp2_with (first | ((with_reducible refine gate_dst (N := 2) rfl ?_); refine box_event ?hg (N := 2) ?hd (cs := #[.int .u64 a0_0, .int .u32 a0_1, .slice A0_2 l0_2.length c0_2, .int .u64 a0_3]) (t := 29) ?hr ?_; (case hd => rfl); (case hg => rfl); (case hr => first | (go_simp; done) | (go_simp; rfl)); intro gb149 hg w9 hbox hb; have n0_ := Aside0.mk (below_step (by repeat (first | (with_reducible first | exact HB.out | apply below_alloc | apply pw_below_drewN | apply below_drew1) | exact HB.out)) hb); have n1_ := Aside0.mk (hbox); have n2_ := Aside0.mk ((by rw [hg]; exact (below_size (by repeat (first | (with_reducible first | exact HB.out | apply below_alloc | apply pw_below_drewN | apply below_drew1) | exact HB.out))) : w.heap.size ≤ gb149)); have n3_ := Aside0.mk ((by rw [hg]; exact (below_size (by repeat (first | (with_reducible first | exact HB.out | apply below_alloc | apply pw_below_drewN | apply below_drew1) | exact HB.out))) : w.heap.size ≤ gb149)); clear HB; have HB := n0_; have BK149 := n1_; have GW149 := n2_; have GE149 := n3_; clear n0_ n1_ n2_ n3_; clear hb hbox hg; have hcz10_0 : w9.cell? ⟨gb149, 0, none⟩ = some (.int .u64 a0_0) := (blk_cell BK149.out 0).trans rfl; have hcz10_1 : w9.cell? ⟨gb149, 1, none⟩ = some (.int .u32 a0_1) := (blk_cell BK149.out 1).trans rfl; have hcz10_2 : w9.cell? ⟨gb149, 2, none⟩ = some (.slice A0_2 l0_2.length c0_2) := (blk_cell BK149.out 2).trans rfl; have hcz10_3 : w9.cell? ⟨gb149, 3, none⟩ = some (.int .u64 a0_3) := (blk_cell BK149.out 3).trans rfl; have hfz10_0 := blk_frozen BK149.out 0; have hfz10_1 := blk_frozen BK149.out 1; have hfz10_2 := blk_frozen BK149.out 2; have hfz10_3 := blk_frozen BK149.out 3))
      go_ret
      exact ⟨by first | rfl | (simp [errW_none, errW_some] <;> rfl) | (simp [*, errW_none, errW_some] <;> rfl), by repeat (first | (with_reducible first | exact HB.out | apply below_alloc | apply pw_below_drewN | apply below_drew1 | refine below_set ?_ GE149.out) | exact HB.out)⟩

/-! ### hayloftref10_As: function 18 -/
def hayloftref10_As.f (a0_0 : Int) (a0_1 : Int) (l0_2 : List (S69)) (a0_3 : Int) (a1 : Int) : Option (Int × Int × (List (S69)) × Int) := if a0_3 > a1 then (some (a0_0, a0_1, l0_2, 0)) else (some (a0_0, a0_1, l0_2, a0_3))
set_option maxHeartbeats 8000000 in
set_option maxRecDepth 100000 in
theorem hayloftref10_As.calls (a0_0 : Int) (a0_1 : Int) (P0_2_ : Nat → Prop) (u9000_ : Value) (l0_2 : List (S69)) (a0_3 : Int) (a1 : Int) (r1 : Int) (r2 : Int) (r3 : List (S69)) (r4 : Int) (w0 w : World) (hB : Below w0.heap.size w0 w) (ho0_2 : Kd.R k69 69 w w0.heap.size P0_2_ u9000_ l0_2) (h : hayloftref10_As.f a0_0 a0_1 l0_2 a0_3 a1 = some (r1, r2, r3, r4)) :
    Calls Try.prog 18 #[.agg #[.int .u64 a0_0, .int .u32 a0_1, u9000_, .int .u64 a0_3], .int .u64 a1] w fun e w' => ∃ v2_ : Value, e = .returned (.agg #[.int .u64 r1, .int .u32 r2, v2_, .int .u64 r4]) ∧ Kd.R k69 69 w' w0.heap.size (fun k_ => (P0_2_ k_ ∨ w.heap.size ≤ k_)) v2_ r3 ∧ Below w0.heap.size w0 w' ∧ Kept w w' (fun k_ => P0_2_ k_) := by
  have hu29 := Try.underlying29
  have HO0_2 := Aside0.mk (show Kd.R k69 69 w w0.heap.size (fun k_ => (P0_2_ k_ ∨ w.heap.size ≤ k_)) u9000_ l0_2 from Kd.R_mono ho0_2 (fun k_ hk => (.inl hk)))
  have HK := Aside0.mk (Kept.refl w (fun k_ => P0_2_ k_))
  have HW0 := Aside0.mk hB.size
  have HB := Aside0.mk hB
  clear hB
  have H : (if a0_3 > a1 then (some (a0_0, a0_1, l0_2, 0)) else (some (a0_0, a0_1, l0_2, a0_3))) = some (r1, r2, r3, r4) := h
  clear h
  by_cases c3 : a0_3 > a1
  · rw [if_pos c3] at H
    have c3b0 : decide (a1 < a0_3) = true := decide_eq_true c3
    clear c3
    simp only [Option.some.injEq, Prod.mk.injEq] at H
    obtain ⟨rfl, rfl, rfl, rfl⟩ := H
    obtain ⟨Ao4, co4, eo4⟩ := Kd.R_slice HO0_2.out
    subst eo4
    go_enter Try.func18, Try.ntmps18
    go_wp2_with (first | ((with_reducible refine gate_dst (N := 2) rfl ?_); refine box_event ?hg (N := 2) ?hd (cs := #[.int .u64 a0_0, .int .u32 a0_1, .slice Ao4 l0_2.length co4, .int .u64 a0_3]) (t := 29) ?hr ?_; (case hd => rfl); (case hg => rfl); (case hr => first | (go_simp; done) | (go_simp; rfl)); intro gb150 hg w5 hbox hb; have n0_ := Aside0.mk (Kd.R_below (by (with_reducible repeat (first | apply Kd.R_alloc | apply Kd.R_drewN | apply Kd.R_drew)); exact HO0_2.out) hb); have n1_ := Aside0.mk (Kept.below (S := (fun k_ => P0_2_ k_)) (by repeat (first | (with_reducible first | exact HK.out | apply Kept.alloc | apply Kept.drewN | apply Kept.drew) | exact HK.out)) hb); have n2_ := Aside0.mk (below_step (by repeat (first | (with_reducible first | exact HB.out | apply below_alloc | apply pw_below_drewN | apply below_drew1) | exact HB.out)) hb); have n3_ := Aside0.mk (hbox); have n4_ := Aside0.mk ((by rw [hg]; exact (by first | exact HK.out.1 | exact (show Kept w _ (fun k_ => P0_2_ k_) from by repeat (first | (with_reducible first | exact HK.out | apply Kept.alloc | apply Kept.drewN | apply Kept.drew) | exact HK.out)).1) : w.heap.size ≤ gb150)); have n5_ := Aside0.mk ((by rw [hg]; exact (below_size (by repeat (first | (with_reducible first | exact HB.out | apply below_alloc | apply pw_below_drewN | apply below_drew1) | exact HB.out))) : w0.heap.size ≤ gb150)); clear HO0_2; clear HK; clear HB; have HO0_2 := n0_; have HK := n1_; have HB := n2_; have BK150 := n3_; have GW150 := n4_; have GE150 := n5_; clear n0_ n1_ n2_ n3_ n4_ n5_; clear hb hbox hg) | ((with_reducible refine gate_dst (N := 4) rfl ?_); refine box_event ?hg (N := 4) ?hd (cs := #[.int .u64 0, .int .u32 0, .slice none 0 0, .int .u64 0]) (t := 29) ?hr ?_; (case hd => rfl); (case hg => rfl); (case hr => first | (go_simp; done) | (go_simp; rfl)); intro gb151 hg w6 hbox hb; have n0_ := Aside0.mk (Kd.R_below (by (with_reducible repeat (first | apply Kd.R_alloc | apply Kd.R_drewN | apply Kd.R_drew)); exact HO0_2.out) hb); have n1_ := Aside0.mk (blk_below (g := gb150) (o := .cells #[.int .u64 a0_0, .int .u32 a0_1, .slice Ao4 l0_2.length co4, .int .u64 a0_3] 29 (0, 0)) (by (with_reducible repeat (first | refine blk_drewN ?_ _ | refine blk_drew ?_ | refine blk_alloc ?_ _)); exact BK150.out) hb); have n2_ := Aside0.mk (Kept.below (S := (fun k_ => P0_2_ k_)) (by repeat (first | (with_reducible first | exact HK.out | apply Kept.alloc | apply Kept.drewN | apply Kept.drew | refine Kept.setCell ?_ (.inr GW150.out) _) | exact HK.out)) hb); have n3_ := Aside0.mk (below_step (by repeat (first | (with_reducible first | exact HB.out | apply below_alloc | apply pw_below_drewN | apply below_drew1 | refine below_set ?_ GE150.out) | exact HB.out)) hb); have n4_ := Aside0.mk (hbox); have n5_ := Aside0.mk ((by rw [hg]; exact (by first | exact HK.out.1 | exact (show Kept w _ (fun k_ => P0_2_ k_) from by repeat (first | (with_reducible first | exact HK.out | apply Kept.alloc | apply Kept.drewN | apply Kept.drew | refine Kept.setCell ?_ (.inr GW150.out) _) | exact HK.out)).1) : w.heap.size ≤ gb151)); have n6_ := Aside0.mk ((by rw [hg]; exact (below_size (by repeat (first | (with_reducible first | exact HB.out | apply below_alloc | apply pw_below_drewN | apply below_drew1 | refine below_set ?_ GE150.out) | exact HB.out))) : w0.heap.size ≤ gb151)); have n7_ := Aside0.mk ((by rw [hg]; exact Nat.ne_of_lt (blk_lt (g := gb150) (o := .cells #[.int .u64 a0_0, .int .u32 a0_1, .slice Ao4 l0_2.length co4, .int .u64 a0_3] 29 (0, 0)) (by (with_reducible repeat (first | refine blk_drewN ?_ _ | refine blk_drew ?_ | refine blk_alloc ?_ _)); exact BK150.out)) : gb150 ≠ gb151)); have n8_ := Aside0.mk ((by rw [hg]; exact Nat.ne_of_gt (blk_lt (g := gb150) (o := .cells #[.int .u64 a0_0, .int .u32 a0_1, .slice Ao4 l0_2.length co4, .int .u64 a0_3] 29 (0, 0)) (by (with_reducible repeat (first | refine blk_drewN ?_ _ | refine blk_drew ?_ | refine blk_alloc ?_ _)); exact BK150.out)) : gb151 ≠ gb150)); clear HO0_2; clear BK150; clear HK; clear HB; have HO0_2 := n0_; have BK150 := n1_; have HK := n2_; have HB := n3_; have BK151 := n4_; have GW151 := n5_; have GE151 := n6_; have NB150_151 := n7_; have NB151_150 := n8_; clear n0_ n1_ n2_ n3_ n4_ n5_ n6_ n7_ n8_; clear hb hbox hg; have hnb7 := NB150_151.out; have hnc7 := NB151_150.out; have hcz8_0 : w6.cell? ⟨gb150, 0, none⟩ = some (.int .u64 a0_0) := (blk_cell BK150.out 0).trans rfl; have hcz8_1 : w6.cell? ⟨gb150, 1, none⟩ = some (.int .u32 a0_1) := (blk_cell BK150.out 1).trans rfl; have hcz8_2 : w6.cell? ⟨gb150, 2, none⟩ = some (.slice Ao4 l0_2.length co4) := (blk_cell BK150.out 2).trans rfl; have hcz8_3 : w6.cell? ⟨gb150, 3, none⟩ = some (.int .u64 a0_3) := (blk_cell BK150.out 3).trans rfl; have hfz8_0 := blk_frozen BK150.out 0; have hfz8_1 := blk_frozen BK150.out 1; have hfz8_2 := blk_frozen BK150.out 2; have hfz8_3 := blk_frozen BK150.out 3; have hcz9_0 : w6.cell? ⟨gb151, 0, none⟩ = some (.int .u64 0) := (blk_cell BK151.out 0).trans rfl; have hcz9_1 : w6.cell? ⟨gb151, 1, none⟩ = some (.int .u32 0) := (blk_cell BK151.out 1).trans rfl; have hcz9_2 : w6.cell? ⟨gb151, 2, none⟩ = some (.slice none 0 0) := (blk_cell BK151.out 2).trans rfl; have hcz9_3 : w6.cell? ⟨gb151, 3, none⟩ = some (.int .u64 0) := (blk_cell BK151.out 3).trans rfl; have hfz9_0 := blk_frozen BK151.out 0; have hfz9_1 := blk_frozen BK151.out 1; have hfz9_2 := blk_frozen BK151.out 2; have hfz9_3 := blk_frozen BK151.out 3))
    refine bodyPost_ret (results_cell_row rfl _ _ gb151 29 #[.int .u64 a0_0, .int .u32 a0_1, .slice Ao4 l0_2.length co4, .int .u64 0] (0, 0) _ rfl (by (with_reducible repeat (first | refine blk_drewN ?_ _ | refine blk_drew ?_ | refine blk_alloc ?_ _)); refine blk_put (cs := #[.int .u64 a0_0, .int .u32 a0_1, .slice Ao4 l0_2.length co4, .int .u64 0]) ?_ 3 _ rfl; (with_reducible repeat (first | refine blk_drewN ?_ _ | refine blk_drew ?_ | refine blk_alloc ?_ _)); refine blk_put (cs := #[.int .u64 a0_0, .int .u32 a0_1, .slice none 0 0, .int .u64 0]) ?_ 2 _ rfl; (with_reducible repeat (first | refine blk_drewN ?_ _ | refine blk_drew ?_ | refine blk_alloc ?_ _)); refine blk_put (cs := #[.int .u64 a0_0, .int .u32 0, .slice none 0 0, .int .u64 0]) ?_ 1 _ rfl; (with_reducible repeat (first | refine blk_drewN ?_ _ | refine blk_drew ?_ | refine blk_alloc ?_ _)); refine blk_put (cs := #[.int .u64 0, .int .u32 0, .slice none 0 0, .int .u64 0]) ?_ 0 _ rfl; (with_reducible repeat (first | refine blk_drewN ?_ _ | refine blk_drew ?_ | refine blk_alloc ?_ _)); refine blk_far ?_ NB151_150.out _; (with_reducible repeat (first | refine blk_drewN ?_ _ | refine blk_drew ?_ | refine blk_alloc ?_ _)); exact BK151.out) Try.underlying29 rfl (by kernel_rfl)) rfl ?_
    exact ⟨_, by first | rfl | (simp [errW_none, errW_some] <;> rfl) | (simp [*, errW_none, errW_some] <;> rfl), by (with_reducible repeat (first | apply Kd.R_alloc | apply Kd.R_drewN | apply Kd.R_drew)); exact Kd.R_mono (Kd.R_far (p := ⟨gb151, 3, none⟩) (Kd.R_far (p := ⟨gb151, 2, none⟩) (Kd.R_far (p := ⟨gb151, 1, none⟩) (Kd.R_far (p := ⟨gb151, 0, none⟩) (Kd.R_far (p := ⟨gb150, 3, none⟩) (Kd.R_types (Kd.R_types HO0_2.out BK150.out (by decide)) BK151.out (by decide)) (fun _ hk => hk.1.2) (.int .u64 0)) (fun _ hk => hk.2) (.int .u64 a0_0)) (fun _ hk => hk.2) (.int .u32 a0_1)) (fun _ hk => hk.2) (.slice Ao4 l0_2.length co4)) (fun _ hk => hk.2) (.int .u64 0)) (fun _ hk => hk.1.1), by repeat (first | (with_reducible first | exact HB.out | apply below_alloc | apply pw_below_drewN | apply below_drew1 | refine below_set ?_ GE150.out | refine below_set ?_ GE151.out) | exact HB.out), by repeat (first | (with_reducible first | exact HK.out | apply Kept.alloc | apply Kept.drewN | apply Kept.drew | refine Kept.setCell ?_ (.inr GW150.out) _ | refine Kept.setCell ?_ (.inr GW151.out) _) | exact HK.out)⟩
  · rw [if_neg c3] at H
    have c3b0 : decide (a1 < a0_3) = false := decide_eq_false c3
    clear c3
    simp only [Option.some.injEq, Prod.mk.injEq] at H
    obtain ⟨rfl, rfl, rfl, rfl⟩ := H
    obtain ⟨Ao10, co10, eo10⟩ := Kd.R_slice HO0_2.out
    subst eo10
    go_enter Try.func18, Try.ntmps18
    go_wp2_with (first | ((with_reducible refine gate_dst (N := 2) rfl ?_); refine box_event ?hg (N := 2) ?hd (cs := #[.int .u64 a0_0, .int .u32 a0_1, .slice Ao10 l0_2.length co10, .int .u64 a0_3]) (t := 29) ?hr ?_; (case hd => rfl); (case hg => rfl); (case hr => first | (go_simp; done) | (go_simp; rfl)); intro gb150 hg w11 hbox hb; have n0_ := Aside0.mk (Kd.R_below (by (with_reducible repeat (first | apply Kd.R_alloc | apply Kd.R_drewN | apply Kd.R_drew)); exact HO0_2.out) hb); have n1_ := Aside0.mk (Kept.below (S := (fun k_ => P0_2_ k_)) (by repeat (first | (with_reducible first | exact HK.out | apply Kept.alloc | apply Kept.drewN | apply Kept.drew) | exact HK.out)) hb); have n2_ := Aside0.mk (below_step (by repeat (first | (with_reducible first | exact HB.out | apply below_alloc | apply pw_below_drewN | apply below_drew1) | exact HB.out)) hb); have n3_ := Aside0.mk (hbox); have n4_ := Aside0.mk ((by rw [hg]; exact (by first | exact HK.out.1 | exact (show Kept w _ (fun k_ => P0_2_ k_) from by repeat (first | (with_reducible first | exact HK.out | apply Kept.alloc | apply Kept.drewN | apply Kept.drew) | exact HK.out)).1) : w.heap.size ≤ gb150)); have n5_ := Aside0.mk ((by rw [hg]; exact (below_size (by repeat (first | (with_reducible first | exact HB.out | apply below_alloc | apply pw_below_drewN | apply below_drew1) | exact HB.out))) : w0.heap.size ≤ gb150)); clear HO0_2; clear HK; clear HB; have HO0_2 := n0_; have HK := n1_; have HB := n2_; have BK150 := n3_; have GW150 := n4_; have GE150 := n5_; clear n0_ n1_ n2_ n3_ n4_ n5_; clear hb hbox hg) | ((with_reducible refine gate_dst (N := 4) rfl ?_); refine box_event ?hg (N := 4) ?hd (cs := #[.int .u64 0, .int .u32 0, .slice none 0 0, .int .u64 0]) (t := 29) ?hr ?_; (case hd => rfl); (case hg => rfl); (case hr => first | (go_simp; done) | (go_simp; rfl)); intro gb151 hg w12 hbox hb; have n0_ := Aside0.mk (Kd.R_below (by (with_reducible repeat (first | apply Kd.R_alloc | apply Kd.R_drewN | apply Kd.R_drew)); exact HO0_2.out) hb); have n1_ := Aside0.mk (blk_below (g := gb150) (o := .cells #[.int .u64 a0_0, .int .u32 a0_1, .slice Ao10 l0_2.length co10, .int .u64 a0_3] 29 (0, 0)) (by (with_reducible repeat (first | refine blk_drewN ?_ _ | refine blk_drew ?_ | refine blk_alloc ?_ _)); exact BK150.out) hb); have n2_ := Aside0.mk (Kept.below (S := (fun k_ => P0_2_ k_)) (by repeat (first | (with_reducible first | exact HK.out | apply Kept.alloc | apply Kept.drewN | apply Kept.drew | refine Kept.setCell ?_ (.inr GW150.out) _) | exact HK.out)) hb); have n3_ := Aside0.mk (below_step (by repeat (first | (with_reducible first | exact HB.out | apply below_alloc | apply pw_below_drewN | apply below_drew1 | refine below_set ?_ GE150.out) | exact HB.out)) hb); have n4_ := Aside0.mk (hbox); have n5_ := Aside0.mk ((by rw [hg]; exact (by first | exact HK.out.1 | exact (show Kept w _ (fun k_ => P0_2_ k_) from by repeat (first | (with_reducible first | exact HK.out | apply Kept.alloc | apply Kept.drewN | apply Kept.drew | refine Kept.setCell ?_ (.inr GW150.out) _) | exact HK.out)).1) : w.heap.size ≤ gb151)); have n6_ := Aside0.mk ((by rw [hg]; exact (below_size (by repeat (first | (with_reducible first | exact HB.out | apply below_alloc | apply pw_below_drewN | apply below_drew1 | refine below_set ?_ GE150.out) | exact HB.out))) : w0.heap.size ≤ gb151)); have n7_ := Aside0.mk ((by rw [hg]; exact Nat.ne_of_lt (blk_lt (g := gb150) (o := .cells #[.int .u64 a0_0, .int .u32 a0_1, .slice Ao10 l0_2.length co10, .int .u64 a0_3] 29 (0, 0)) (by (with_reducible repeat (first | refine blk_drewN ?_ _ | refine blk_drew ?_ | refine blk_alloc ?_ _)); exact BK150.out)) : gb150 ≠ gb151)); have n8_ := Aside0.mk ((by rw [hg]; exact Nat.ne_of_gt (blk_lt (g := gb150) (o := .cells #[.int .u64 a0_0, .int .u32 a0_1, .slice Ao10 l0_2.length co10, .int .u64 a0_3] 29 (0, 0)) (by (with_reducible repeat (first | refine blk_drewN ?_ _ | refine blk_drew ?_ | refine blk_alloc ?_ _)); exact BK150.out)) : gb151 ≠ gb150)); clear HO0_2; clear BK150; clear HK; clear HB; have HO0_2 := n0_; have BK150 := n1_; have HK := n2_; have HB := n3_; have BK151 := n4_; have GW151 := n5_; have GE151 := n6_; have NB150_151 := n7_; have NB151_150 := n8_; clear n0_ n1_ n2_ n3_ n4_ n5_ n6_ n7_ n8_; clear hb hbox hg; have hnb13 := NB150_151.out; have hnc13 := NB151_150.out; have hcz14_0 : w12.cell? ⟨gb150, 0, none⟩ = some (.int .u64 a0_0) := (blk_cell BK150.out 0).trans rfl; have hcz14_1 : w12.cell? ⟨gb150, 1, none⟩ = some (.int .u32 a0_1) := (blk_cell BK150.out 1).trans rfl; have hcz14_2 : w12.cell? ⟨gb150, 2, none⟩ = some (.slice Ao10 l0_2.length co10) := (blk_cell BK150.out 2).trans rfl; have hcz14_3 : w12.cell? ⟨gb150, 3, none⟩ = some (.int .u64 a0_3) := (blk_cell BK150.out 3).trans rfl; have hfz14_0 := blk_frozen BK150.out 0; have hfz14_1 := blk_frozen BK150.out 1; have hfz14_2 := blk_frozen BK150.out 2; have hfz14_3 := blk_frozen BK150.out 3; have hcz15_0 : w12.cell? ⟨gb151, 0, none⟩ = some (.int .u64 0) := (blk_cell BK151.out 0).trans rfl; have hcz15_1 : w12.cell? ⟨gb151, 1, none⟩ = some (.int .u32 0) := (blk_cell BK151.out 1).trans rfl; have hcz15_2 : w12.cell? ⟨gb151, 2, none⟩ = some (.slice none 0 0) := (blk_cell BK151.out 2).trans rfl; have hcz15_3 : w12.cell? ⟨gb151, 3, none⟩ = some (.int .u64 0) := (blk_cell BK151.out 3).trans rfl; have hfz15_0 := blk_frozen BK151.out 0; have hfz15_1 := blk_frozen BK151.out 1; have hfz15_2 := blk_frozen BK151.out 2; have hfz15_3 := blk_frozen BK151.out 3))
    refine bodyPost_ret (results_cell_row rfl _ _ gb151 29 #[.int .u64 a0_0, .int .u32 a0_1, .slice Ao10 l0_2.length co10, .int .u64 a0_3] (0, 0) _ rfl (by (with_reducible repeat (first | refine blk_drewN ?_ _ | refine blk_drew ?_ | refine blk_alloc ?_ _)); refine blk_put (cs := #[.int .u64 a0_0, .int .u32 a0_1, .slice Ao10 l0_2.length co10, .int .u64 0]) ?_ 3 _ rfl; (with_reducible repeat (first | refine blk_drewN ?_ _ | refine blk_drew ?_ | refine blk_alloc ?_ _)); refine blk_put (cs := #[.int .u64 a0_0, .int .u32 a0_1, .slice none 0 0, .int .u64 0]) ?_ 2 _ rfl; (with_reducible repeat (first | refine blk_drewN ?_ _ | refine blk_drew ?_ | refine blk_alloc ?_ _)); refine blk_put (cs := #[.int .u64 a0_0, .int .u32 0, .slice none 0 0, .int .u64 0]) ?_ 1 _ rfl; (with_reducible repeat (first | refine blk_drewN ?_ _ | refine blk_drew ?_ | refine blk_alloc ?_ _)); refine blk_put (cs := #[.int .u64 0, .int .u32 0, .slice none 0 0, .int .u64 0]) ?_ 0 _ rfl; (with_reducible repeat (first | refine blk_drewN ?_ _ | refine blk_drew ?_ | refine blk_alloc ?_ _)); exact BK151.out) Try.underlying29 rfl (by kernel_rfl)) rfl ?_
    exact ⟨_, by first | rfl | (simp [errW_none, errW_some] <;> rfl) | (simp [*, errW_none, errW_some] <;> rfl), by (with_reducible repeat (first | apply Kd.R_alloc | apply Kd.R_drewN | apply Kd.R_drew)); exact Kd.R_mono (Kd.R_far (p := ⟨gb151, 3, none⟩) (Kd.R_far (p := ⟨gb151, 2, none⟩) (Kd.R_far (p := ⟨gb151, 1, none⟩) (Kd.R_far (p := ⟨gb151, 0, none⟩) (Kd.R_types HO0_2.out BK151.out (by decide)) (fun _ hk => hk.2) (.int .u64 a0_0)) (fun _ hk => hk.2) (.int .u32 a0_1)) (fun _ hk => hk.2) (.slice Ao10 l0_2.length co10)) (fun _ hk => hk.2) (.int .u64 a0_3)) (fun _ hk => hk.1), by repeat (first | (with_reducible first | exact HB.out | apply below_alloc | apply pw_below_drewN | apply below_drew1 | refine below_set ?_ GE150.out | refine below_set ?_ GE151.out) | exact HB.out), by repeat (first | (with_reducible first | exact HK.out | apply Kept.alloc | apply Kept.drewN | apply Kept.drew | refine Kept.setCell ?_ (.inr GW150.out) _ | refine Kept.setCell ?_ (.inr GW151.out) _) | exact HK.out)⟩

-- NOT PRINTED: function 29 (hayloftref10_At)

/-! ### wos_Seen: function 14 -/
def wos_Seen.f (a0_0 : Int) (a0_1 : Int) (l0_2 : List (S69)) (a0_3 : Int) (a1 : Int) : Option (Bool) := if a0_0 ≤ a1 then (if a0_3 = 0 then (some true) else (some (decide (a0_3 > a1)))) else (some false)
set_option maxHeartbeats 8000000 in
set_option maxRecDepth 100000 in
theorem wos_Seen.calls (a0_0 : Int) (a0_1 : Int) (A0_2 : Option Addr) (c0_2 : Nat) (l0_2 : List (S69)) (a0_3 : Int) (a1 : Int) (r : Bool) (w : World) (hr0_2 : Kd.C k69 w A0_2 l0_2.length l0_2) (hc0_2 : l0_2.length ≤ c0_2) (h : wos_Seen.f a0_0 a0_1 l0_2 a0_3 a1 = some r) :
    Calls Try.prog 14 #[.agg #[.int .u64 a0_0, .int .u32 a0_1, .slice A0_2 l0_2.length c0_2, .int .u64 a0_3], .int .u64 a1] w fun e w' => e = .returned (.bool r) ∧ Below w.heap.size w w' := by
  have hu29 := Try.underlying29
  have HR0_2 := Aside0.mk hr0_2
  have HC0_2 := Aside0.mk hc0_2
  clear hr0_2 hc0_2
  have HB := Aside0.mk (Below.refl w.heap.size w)
  have H : (if a0_0 ≤ a1 then (if a0_3 = 0 then (some true) else (some (decide (a0_3 > a1)))) else (some false)) = some r := h
  clear h
  by_cases c3 : a0_0 ≤ a1
  · rw [if_pos c3] at H
    have c3b0 : decide (a0_0 ≤ a1) = true := decide_eq_true c3
    clear c3
    by_cases c4 : a0_3 = 0
    · rw [if_pos c4] at H
      have c4b0 : (a0_3 == 0) = true := beq_iff_eq.mpr c4
      have c4b1 : (a0_3 != 0) = false := bne_eq_false_iff_eq.mpr c4
      clear c4
      obtain rfl := Option.some.inj H
      go_enter Try.func14, Try.ntmps14
      go_wp2_with (first | ((with_reducible refine gate_dst (N := 2) rfl ?_); refine box_event ?hg (N := 2) ?hd (cs := #[.int .u64 a0_0, .int .u32 a0_1, .slice A0_2 l0_2.length c0_2, .int .u64 a0_3]) (t := 29) ?hr ?_; (case hd => rfl); (case hg => rfl); (case hr => first | (go_simp; done) | (go_simp; rfl)); intro gb155 hg w5 hbox hb; have n0_ := Aside0.mk (below_step (by repeat (first | (with_reducible first | exact HB.out | apply below_alloc | apply pw_below_drewN | apply below_drew1) | exact HB.out)) hb); have n1_ := Aside0.mk (hbox); have n2_ := Aside0.mk ((by rw [hg]; exact (below_size (by repeat (first | (with_reducible first | exact HB.out | apply below_alloc | apply pw_below_drewN | apply below_drew1) | exact HB.out))) : w.heap.size ≤ gb155)); have n3_ := Aside0.mk ((by rw [hg]; exact (below_size (by repeat (first | (with_reducible first | exact HB.out | apply below_alloc | apply pw_below_drewN | apply below_drew1) | exact HB.out))) : w.heap.size ≤ gb155)); clear HB; have HB := n0_; have BK155 := n1_; have GW155 := n2_; have GE155 := n3_; clear n0_ n1_ n2_ n3_; clear hb hbox hg; have hcz6_0 : w5.cell? ⟨gb155, 0, none⟩ = some (.int .u64 a0_0) := (blk_cell BK155.out 0).trans rfl; have hcz6_1 : w5.cell? ⟨gb155, 1, none⟩ = some (.int .u32 a0_1) := (blk_cell BK155.out 1).trans rfl; have hcz6_2 : w5.cell? ⟨gb155, 2, none⟩ = some (.slice A0_2 l0_2.length c0_2) := (blk_cell BK155.out 2).trans rfl; have hcz6_3 : w5.cell? ⟨gb155, 3, none⟩ = some (.int .u64 a0_3) := (blk_cell BK155.out 3).trans rfl; have hfz6_0 := blk_frozen BK155.out 0; have hfz6_1 := blk_frozen BK155.out 1; have hfz6_2 := blk_frozen BK155.out 2; have hfz6_3 := blk_frozen BK155.out 3))
      go_ret
      exact ⟨by first | rfl | (simp [errW_none, errW_some] <;> rfl) | (simp [*, errW_none, errW_some] <;> rfl), by repeat (first | (with_reducible first | exact HB.out | apply below_alloc | apply pw_below_drewN | apply below_drew1 | refine below_set ?_ GE155.out) | exact HB.out)⟩
    · rw [if_neg c4] at H
      have c4b0 : (a0_3 == 0) = false := beq_eq_false_iff_ne.mpr c4
      have c4b1 : (a0_3 != 0) = true := bne_iff_ne.mpr c4
      obtain rfl := Option.some.inj H
      go_enter Try.func14, Try.ntmps14
      go_wp2_with (first | ((with_reducible refine gate_dst (N := 2) rfl ?_); refine box_event ?hg (N := 2) ?hd (cs := #[.int .u64 a0_0, .int .u32 a0_1, .slice A0_2 l0_2.length c0_2, .int .u64 a0_3]) (t := 29) ?hr ?_; (case hd => rfl); (case hg => rfl); (case hr => first | (go_simp; done) | (go_simp; rfl)); intro gb155 hg w7 hbox hb; have n0_ := Aside0.mk (below_step (by repeat (first | (with_reducible first | exact HB.out | apply below_alloc | apply pw_below_drewN | apply below_drew1) | exact HB.out)) hb); have n1_ := Aside0.mk (hbox); have n2_ := Aside0.mk ((by rw [hg]; exact (below_size (by repeat (first | (with_reducible first | exact HB.out | apply below_alloc | apply pw_below_drewN | apply below_drew1) | exact HB.out))) : w.heap.size ≤ gb155)); have n3_ := Aside0.mk ((by rw [hg]; exact (below_size (by repeat (first | (with_reducible first | exact HB.out | apply below_alloc | apply pw_below_drewN | apply below_drew1) | exact HB.out))) : w.heap.size ≤ gb155)); clear HB; have HB := n0_; have BK155 := n1_; have GW155 := n2_; have GE155 := n3_; clear n0_ n1_ n2_ n3_; clear hb hbox hg; have hcz8_0 : w7.cell? ⟨gb155, 0, none⟩ = some (.int .u64 a0_0) := (blk_cell BK155.out 0).trans rfl; have hcz8_1 : w7.cell? ⟨gb155, 1, none⟩ = some (.int .u32 a0_1) := (blk_cell BK155.out 1).trans rfl; have hcz8_2 : w7.cell? ⟨gb155, 2, none⟩ = some (.slice A0_2 l0_2.length c0_2) := (blk_cell BK155.out 2).trans rfl; have hcz8_3 : w7.cell? ⟨gb155, 3, none⟩ = some (.int .u64 a0_3) := (blk_cell BK155.out 3).trans rfl; have hfz8_0 := blk_frozen BK155.out 0; have hfz8_1 := blk_frozen BK155.out 1; have hfz8_2 := blk_frozen BK155.out 2; have hfz8_3 := blk_frozen BK155.out 3))
      go_ret
      exact ⟨by first | rfl | (simp [errW_none, errW_some] <;> rfl) | (simp [*, errW_none, errW_some] <;> rfl), by repeat (first | (with_reducible first | exact HB.out | apply below_alloc | apply pw_below_drewN | apply below_drew1 | refine below_set ?_ GE155.out) | exact HB.out)⟩
  · rw [if_neg c3] at H
    have c3b0 : decide (a0_0 ≤ a1) = false := decide_eq_false c3
    clear c3
    obtain rfl := Option.some.inj H
    go_enter Try.func14, Try.ntmps14
    go_wp2_with (first | ((with_reducible refine gate_dst (N := 2) rfl ?_); refine box_event ?hg (N := 2) ?hd (cs := #[.int .u64 a0_0, .int .u32 a0_1, .slice A0_2 l0_2.length c0_2, .int .u64 a0_3]) (t := 29) ?hr ?_; (case hd => rfl); (case hg => rfl); (case hr => first | (go_simp; done) | (go_simp; rfl)); intro gb155 hg w9 hbox hb; have n0_ := Aside0.mk (below_step (by repeat (first | (with_reducible first | exact HB.out | apply below_alloc | apply pw_below_drewN | apply below_drew1) | exact HB.out)) hb); have n1_ := Aside0.mk (hbox); have n2_ := Aside0.mk ((by rw [hg]; exact (below_size (by repeat (first | (with_reducible first | exact HB.out | apply below_alloc | apply pw_below_drewN | apply below_drew1) | exact HB.out))) : w.heap.size ≤ gb155)); have n3_ := Aside0.mk ((by rw [hg]; exact (below_size (by repeat (first | (with_reducible first | exact HB.out | apply below_alloc | apply pw_below_drewN | apply below_drew1) | exact HB.out))) : w.heap.size ≤ gb155)); clear HB; have HB := n0_; have BK155 := n1_; have GW155 := n2_; have GE155 := n3_; clear n0_ n1_ n2_ n3_; clear hb hbox hg; have hcz10_0 : w9.cell? ⟨gb155, 0, none⟩ = some (.int .u64 a0_0) := (blk_cell BK155.out 0).trans rfl; have hcz10_1 : w9.cell? ⟨gb155, 1, none⟩ = some (.int .u32 a0_1) := (blk_cell BK155.out 1).trans rfl; have hcz10_2 : w9.cell? ⟨gb155, 2, none⟩ = some (.slice A0_2 l0_2.length c0_2) := (blk_cell BK155.out 2).trans rfl; have hcz10_3 : w9.cell? ⟨gb155, 3, none⟩ = some (.int .u64 a0_3) := (blk_cell BK155.out 3).trans rfl; have hfz10_0 := blk_frozen BK155.out 0; have hfz10_1 := blk_frozen BK155.out 1; have hfz10_2 := blk_frozen BK155.out 2; have hfz10_3 := blk_frozen BK155.out 3))
    go_ret
    exact ⟨by first | rfl | (simp [errW_none, errW_some] <;> rfl) | (simp [*, errW_none, errW_some] <;> rfl), by repeat (first | (with_reducible first | exact HB.out | apply below_alloc | apply pw_below_drewN | apply below_drew1 | refine below_set ?_ GE155.out) | exact HB.out)⟩

end Go.Proofs.Ytacacigpendneaa.QV
/- law10.begun. -/
namespace Go.Proofs.Ytacacigpendneaa.QV
open Go.RowKit Go.Proofs.YtacacigpendneaaW.PrintWords Go.Proofs.Ytacacigpendneaa.Mp Go.Proofs.Ytacacigpendneaa.SeqW
set_option linter.unusedVariables false
set_option linter.unusedSimpArgs false
set_option maxRecDepth 100000
set_option maxHeartbeats 4000000 in
theorem begun_any (w : World) :
    Calls Try.prog 11 #[] w fun e w' => ∃ p m, e = .returned (.tuple #[.pointer (some ⟨p, 0, none⟩), .bool true]) ∧ Wo w' p m 0 (fun _ => False) (fun _ => none) ∧ (w.heap.size ≤ m ∧ w.heap.size ≤ p) ∧ Below w.heap.size w w' := by
  go_enter Try.func11, Try.ntmps11
  go_wp2_with fail
  refine (new_any w).mono ?_
  rintro e w1 ⟨rfl, h1, hb1⟩
  go_wp2_with fail
  refine (new_any w1).mono ?_
  rintro e w2 ⟨rfl, h2, hb2⟩
  go_wp2_with fail
  have h1a := (h1.below hb2).below (below_alloc (below_alloc (Below.refl w2.heap.size w2) (.cells #[.int .u64 2, .int .u32 0] 25)) (.cells #[.int .i64 2, .bool false, .int .i64 5, .string ⟨#[]⟩] 69))
  have h2a := h2.below (below_alloc (below_alloc (Below.refl w2.heap.size w2) (.cells #[.int .u64 2, .int .u32 0] 25)) (.cells #[.int .i64 2, .bool false, .int .i64 5, .string ⟨#[]⟩] 69))
  have hB3 : Below w2.heap.size w2 ((w2.alloc (.cells #[.int .u64 2, .int .u32 0] 25)).alloc (.cells #[.int .i64 2, .bool false, .int .i64 5, .string ⟨#[]⟩] 69)) := below_alloc (below_alloc (Below.refl w2.heap.size w2) _) _
  have hid : ((w2.alloc (.cells #[.int .u64 2, .int .u32 0] 25)).alloc (.cells #[.int .i64 2, .bool false, .int .i64 5, .string ⟨#[]⟩] 69)).heap[w2.heap.size]? = some (.cells #[.int .u64 2, .int .u32 0] 25 (0, 0)) := blk_alloc (blk_new w2 _) _
  have hrow := blk_new (w2.alloc (.cells #[.int .u64 2, .int .u32 0] 25)) (.cells #[.int .i64 2, .bool false, .int .i64 5, .string ⟨#[]⟩] 69)
  rw [World.size_alloc] at hrow
  generalize (w2.alloc (.cells #[.int .u64 2, .int .u32 0] 25)).alloc (.cells #[.int .i64 2, .bool false, .int .i64 5, .string ⟨#[]⟩] 69) = w3 at h1a h2a hB3 hid hrow ⊢
  have hC : kS.C w3 (some ⟨w2.heap.size + 1, 0, none⟩) 1 [⟨2, false, 5, ⟨#[]⟩⟩] := by
    refine ⟨rfl, by decide, fun _ => ⟨_, rfl, fun j p hp => ?_⟩⟩
    cases j with
    | succ j => simp at hp
    | zero =>
      simp at hp
      subst hp
      refine ⟨[.int .i64 2, .bool false, .int .i64 5, .string ⟨#[]⟩], rfl, k69_mk w3 _, fun i u hu => ?_⟩
      have hc := blk_cell hrow i
      have ea : (⟨w2.heap.size + 1, 0, none⟩ : Addr).add (0 * kS.sz + i) = ⟨w2.heap.size + 1, i, none⟩ := by simp [Addr.add]; intro h; exact h.symm
      rw [ea, hc]
      simpa using hu
  refine (add_ok ⟨⟨2, 0⟩, [⟨2, false, 5, ⟨#[]⟩⟩], 0⟩ (some ⟨w2.heap.size + 1, 0, none⟩) 1 w3 _ _ 0 _ _ h1a ⟨by decide, by decide⟩ hC (Nat.le_refl _) (by decide) (by decide) rfl (.inl rfl)).mono ?_
  rintro e w4 ⟨rfl, h1b, hg4⟩
  have hz1 := hb1.size
  have hz2 := hb2.size
  have hz3 := hB3.size
  have hm1 : w.heap.size < w1.heap.size := h1.ml
  have hp1 : w.heap.size + 1 < w1.heap.size := h1.pl
  have hm2 : w1.heap.size < w2.heap.size := h2.ml
  have hp2 : w1.heap.size + 1 < w2.heap.size := h2.pl
  have h2b := h2a.keep hg4.size (hg4.block _ (by omega) (by simp only [ne_eq, Option.some.injEq]; omega)) (hg4.block _ (by omega) (by simp only [ne_eq, Option.some.injEq]; omega)) (fun k hk => hk.elim)
  have hid4 := (hg4.block _ (blk_lt hid) (by simp only [ne_eq, Option.some.injEq]; omega)).trans hid
  have i0 := blk_cell hid4 0
  have i1 := blk_cell hid4 1
  go_wp2_with fail
  refine (erase_ok ⟨2, 0⟩ 4 w4 _ _ _ _ _ h1b ⟨by decide, by decide⟩ ⟨⟨2, 0⟩, [⟨2, false, 5, ⟨#[]⟩⟩], 0⟩ (by simp [updV]) (by decide) rfl (by decide)).mono ?_
  rintro e w5 ⟨rfl, h1c, hg5⟩
  have hz4 := hg4.size
  have h2c := h2b.keep hg5.size (hg5.block _ (by omega) (by simp only [ne_eq, Option.some.injEq]; omega)) (hg5.block _ (by omega) (by simp only [ne_eq, Option.some.injEq]; omega)) (fun k hk => hk.elim)
  have hid5 := (hg5.block _ (blk_lt hid4) (by simp only [ne_eq, Option.some.injEq]; omega)).trans hid4
  clear i0 i1
  have i0 := blk_cell hid5 0
  have i1 := blk_cell hid5 1
  go_wp2_with fail
  refine (get_some ⟨2, 0⟩ w5 _ _ _ _ _ h1c ⟨by decide, by decide⟩ ⟨⟨2, 0⟩, [⟨2, false, 5, ⟨#[]⟩⟩], 4⟩ (by simp [updV])).mono ?_
  rintro e w6 ⟨v, rfl, hR, hb6⟩
  obtain ⟨g, c, rfl, -⟩ := Kd.R_form hR (by decide)
  obtain ⟨-, hc6, hC6⟩ := Kd.R_reads' hR
  have hc1 : 1 ≤ c := hc6
  have hx7 := blk_new w6 (.cells #[.int .u64 2, .int .u32 0, .slice (some ⟨g, 0, none⟩) 1 c, .int .u64 4] tVer)
  have hb7 : Below w6.heap.size w6 (w6.alloc (.cells #[.int .u64 2, .int .u32 0, .slice (some ⟨g, 0, none⟩) 1 c, .int .u64 4] tVer)) := below_alloc (Below.refl _ _) _
  have h1d := h1c.below (btr' hb6 hb7)
  have h2d := h2c.below (btr' hb6 hb7)
  have hC7 := Kd.C_below hC6 hb7
  obtain ⟨ad, had, -, -, h5, -⟩ := at_T69 hC7 0 (by decide) (by decide)
  obtain rfl : (⟨g, 0, none⟩ : Addr) = ad := Option.some.inj had
  have h6 : (w6.alloc (.cells #[.int .u64 2, .int .u32 0, .slice (some ⟨g, 0, none⟩) 1 c, .int .u64 4] tVer)).cell? ⟨g, 2, none⟩ = some (.int .i64 5) := h5
  clear h5
  have x0 := blk_cell hx7 0
  have x1 := blk_cell hx7 1
  have x2 := blk_cell hx7 2
  have x3 := blk_cell hx7 3
  go_wp2_with fail
  refine (len_any _ _ _ _ _ _ h1d).mono ?_
  rintro e w8 ⟨rfl, k, rfl, hk, hL⟩
  obtain rfl : k = 1 := hL [⟨2, 0⟩] (by simp) (by intro a ha; simp at ha; subst ha; exact ⟨by decide, by decide⟩) (fun a ha => by
    by_cases e : a = ⟨2, 0⟩
    · subst e; simp [updV]
    · simp [updV, e])
  clear hL hk
  go_wp2_with fail
  refine (wos_Seen.calls 2 0 _ c [⟨2, false, 5, ⟨#[]⟩⟩] 4 3 true _ hC7 hc1 (by decide)).mono ?_
  rintro e w9 ⟨rfl, hb9⟩
  have hC9 := Kd.C_below hC7 hb9
  have hx9 := blk_below hx7 hb9
  clear x0 x1 x2 x3 h6
  have x0 := blk_cell hx9 0
  have x1 := blk_cell hx9 1
  have x2 := blk_cell hx9 2
  have x3 := blk_cell hx9 3
  go_wp2_with fail
  refine (wos_Seen.calls 2 0 _ c [⟨2, false, 5, ⟨#[]⟩⟩] 4 4 false _ hC9 hc1 (by decide)).mono ?_
  rintro e w10 ⟨rfl, hb10⟩
  go_wp2_with fail
  refine bodyPost_ret (v := .tuple #[.pointer (some ⟨w1.heap.size + 1, 0, none⟩), .bool true]) (by simp [results, Try.results11, go_sem]; try rfl) rfl ?_
  have hBa : Below w.heap.size w w3 := btr' hb1 (btr' hb2 hB3)
  have hBb : Below w.heap.size w w4 := hBa.grown hg4 (by omega) (fun k hk => by cases hk; exact Nat.le_refl _)
  have hBc : Below w.heap.size w w5 := hBb.grown hg5 (by omega) (fun k hk => by cases hk; exact Nat.le_refl _)
  exact ⟨_, _, rfl, (h2d.below hb9).below hb10, ⟨hz1, by omega⟩, btr' hBc (btr' (btr' hb6 hb7) (btr' hb9 hb10))⟩
end Go.Proofs.Ytacacigpendneaa.QV
/- wos.Less, wos.As, ref10.As. -/
namespace Go.Proofs.Ytacacigpendneaa.QV
open Go.RowKit Go.Proofs.YtacacigpendneaaW.PrintWords Go.Proofs.Ytacacigpendneaa.Mp Go.Proofs.Ytacacigpendneaa.SeqW
set_option linter.unusedVariables false
set_option linter.unusedSimpArgs false
set_option maxRecDepth 100000
/-- A version as it was told at an epoch. -/
def asE (x : Ver) (E : Int) : Ver := if E < x.f2 then ⟨x.f0, x.f1, 0⟩ else x
theorem asE_f0 (x : Ver) (E : Int) : (asE x E).f0 = x.f0 := by unfold asE; split <;> rfl
theorem asE_f1 (x : Ver) (E : Int) : (asE x E).f1 = x.f1 := by unfold asE; split <;> rfl
theorem asE_lt {x : Ver} {E : Int} (h : E < x.f2) : (asE x E).f2 = 0 := by unfold asE; rw [if_pos h]
theorem asE_ge {x : Ver} {E : Int} (h : ¬ E < x.f2) : (asE x E).f2 = x.f2 := by unfold asE; rw [if_neg h]
theorem refAs_any (x : Ver) (E : Int) (A : Option Addr) (c : Nat) (w : World) :
    Calls Try.prog 18 #[.agg #[.int .u64 x.f0.f0, .int .u32 x.f0.f1, .slice A x.f1.length c, .int .u64 x.f2], .int .u64 E] w fun e w' =>
      e = .returned (.agg #[.int .u64 x.f0.f0, .int .u32 x.f0.f1, .slice A x.f1.length c, .int .u64 (asE x E).f2]) ∧ Below w.heap.size w w' := by
  have hfin : ∀ d : Int, ((w.alloc (.cells #[.int .u64 x.f0.f0, .int .u32 x.f0.f1, .slice A x.f1.length c, .int .u64 d] tVer)).alloc (.cells #[.int .u64 x.f0.f0, .int .u32 x.f0.f1, .slice A x.f1.length c, .int .u64 d] tVer)).heap[w.heap.size + 1]? = some (.cells #[.int .u64 x.f0.f0, .int .u32 x.f0.f1, .slice A x.f1.length c, .int .u64 d] tVer (0, 0)) ∧ Below w.heap.size w ((w.alloc (.cells #[.int .u64 x.f0.f0, .int .u32 x.f0.f1, .slice A x.f1.length c, .int .u64 d] tVer)).alloc (.cells #[.int .u64 x.f0.f0, .int .u32 x.f0.f1, .slice A x.f1.length c, .int .u64 d] tVer)) := fun d =>
    ⟨by have := blk_new (w.alloc (.cells #[.int .u64 x.f0.f0, .int .u32 x.f0.f1, .slice A x.f1.length c, .int .u64 d] tVer)) (.cells #[.int .u64 x.f0.f0, .int .u32 x.f0.f1, .slice A x.f1.length c, .int .u64 d] tVer); rw [World.size_alloc] at this; exact this, below_alloc (below_alloc (Below.refl _ _) _) _⟩
  by_cases hd : E < x.f2
  · have d1 : decide (E < x.f2) = true := decide_eq_true hd
    rw [asE_lt hd]
    clear hd
    go_enter Try.func18, Try.ntmps18
    go_wp2_with fail
    obtain ⟨e2, hBF⟩ := hfin 0
    generalize (w.alloc (.cells #[.int .u64 x.f0.f0, .int .u32 x.f0.f1, .slice A x.f1.length c, .int .u64 0] tVer)).alloc (.cells #[.int .u64 x.f0.f0, .int .u32 x.f0.f1, .slice A x.f1.length c, .int .u64 0] tVer) = WF at e2 hBF ⊢
    have r0 := blk_cell e2 0
    have r1 := blk_cell e2 1
    have r2 := blk_cell e2 2
    have r3 := blk_cell e2 3
    refine bodyPost_ret (v := .agg #[.int .u64 x.f0.f0, .int .u32 x.f0.f1, .slice A x.f1.length c, .int .u64 0]) (by simp [results, Try.results18, go_sem, r0, r1, r2, r3]; try rfl) rfl ?_
    exact ⟨rfl, hBF⟩
  · have d1 : decide (E < x.f2) = false := decide_eq_false hd
    rw [asE_ge hd]
    clear hd
    go_enter Try.func18, Try.ntmps18
    go_wp2_with fail
    obtain ⟨e2, hBF⟩ := hfin x.f2
    generalize (w.alloc (.cells #[.int .u64 x.f0.f0, .int .u32 x.f0.f1, .slice A x.f1.length c, .int .u64 x.f2] tVer)).alloc (.cells #[.int .u64 x.f0.f0, .int .u32 x.f0.f1, .slice A x.f1.length c, .int .u64 x.f2] tVer) = WF at e2 hBF ⊢
    have r0 := blk_cell e2 0
    have r1 := blk_cell e2 1
    have r2 := blk_cell e2 2
    have r3 := blk_cell e2 3
    refine bodyPost_ret (v := .agg #[.int .u64 x.f0.f0, .int .u32 x.f0.f1, .slice A x.f1.length c, .int .u64 x.f2]) (by simp [results, Try.results18, go_sem, r0, r1, r2, r3]; try rfl) rfl ?_
    exact ⟨rfl, hBF⟩
set_option maxHeartbeats 400000 in
theorem as_any (x : Ver) (E : Int) (A : Option Addr) (c : Nat) (w : World) (hr : kS.C w A x.f1.length x.f1) (hc : x.f1.length ≤ c) (hb : x.f1.length * 40 ≤ 140737488355328) :
    Calls Try.prog 17 #[.agg #[.int .u64 x.f0.f0, .int .u32 x.f0.f1, .slice A x.f1.length c, .int .u64 x.f2], .int .u64 E] w fun e w' =>
      ∃ v, e = .returned (.agg #[.int .u64 x.f0.f0, .int .u32 x.f0.f1, v, .int .u64 (asE x E).f2]) ∧ kS.R tS w' w.heap.size (fun _ => True) v x.f1 ∧ Below w.heap.size w w' := by
  have hB0 : Below w.heap.size w ((w.alloc (.cells #[.int .u64 x.f0.f0, .int .u32 x.f0.f1, .slice A x.f1.length c, .int .u64 x.f2] tVer)).alloc (.cells #[.int .u64 0, .int .u32 0, .slice none 0 0, .int .u64 0] tVer)) := below_alloc (below_alloc (Below.refl _ _) _) _
  have hbx : ((w.alloc (.cells #[.int .u64 x.f0.f0, .int .u32 x.f0.f1, .slice A x.f1.length c, .int .u64 x.f2] tVer)).alloc (.cells #[.int .u64 0, .int .u32 0, .slice none 0 0, .int .u64 0] tVer)).heap[w.heap.size]? = some (.cells #[.int .u64 x.f0.f0, .int .u32 x.f0.f1, .slice A x.f1.length c, .int .u64 x.f2] tVer (0, 0)) := blk_alloc (blk_new w _) _
  have hby := blk_new (w.alloc (.cells #[.int .u64 x.f0.f0, .int .u32 x.f0.f1, .slice A x.f1.length c, .int .u64 x.f2] tVer)) (.cells #[.int .u64 0, .int .u32 0, .slice none 0 0, .int .u64 0] tVer)
  rw [World.size_alloc] at hby
  obtain ⟨q, hq⟩ : ∃ q, (asE x E).f2 = q := ⟨_, rfl⟩
  rw [hq]
  go_enter Try.func17, Try.ntmps17
  go_wp2_with fail
  generalize (w.alloc (.cells #[.int .u64 x.f0.f0, .int .u32 x.f0.f1, .slice A x.f1.length c, .int .u64 x.f2] tVer)).alloc (.cells #[.int .u64 0, .int .u32 0, .slice none 0 0, .int .u64 0] tVer) = W0 at hB0 hbx hby ⊢
  refine (own_any x A c W0 (Kd.C_below hr hB0) hc hb).mono ?_
  rintro e w1 ⟨v, rfl, hR, hb1⟩
  obtain ⟨A1, c1, rfl⟩ := Kd.R_slice hR
  have hx1 := blk_below hbx hb1
  have hy1 := blk_below hby hb1
  have hB1 := btr' hB0 hb1
  have hs0 : w.heap.size + 1 < W0.heap.size := blk_lt hby
  have hs1 := hb1.size
  have a0 := blk_cell hx1 0
  have a1 := blk_cell hx1 1
  have a2 := blk_cell hx1 2
  have a3 := blk_cell hx1 3
  have f0 := blk_frozen hx1 0
  have f1 := blk_frozen hx1 1
  have f2 := blk_frozen hx1 2
  have f3 := blk_frozen hx1 3
  have d0 := blk_cell hy1 0
  have d1 := blk_cell hy1 1
  have d2 := blk_cell hy1 2
  have d3 := blk_cell hy1 3
  have g0 := blk_frozen hy1 0
  have g1 := blk_frozen hy1 1
  have g2 := blk_frozen hy1 2
  have g3 := blk_frozen hy1 3
  rename_i Q1 K1 k1 K0 k0
  have hh := PLift.up k1
  clear k1
  go_wp2_with fail
  obtain ⟨p1, p2, p3⟩ := four_cells hx1 (.int .u64 x.f0.f0) (.int .u32 x.f0.f1) (.slice A1 x.f1.length c1) (.int .u64 x.f2)
  have hy2 := (p2 (w.heap.size + 1) (by omega)).trans hy1
  have hB2 := hB1.trans (p3 w.heap.size (Nat.le_refl _))
  have hR2 := Kd.R_step (Kd.R_bound hR) (w1 := ((((w1.setCell ⟨w.heap.size, 0, none⟩ (.int .u64 x.f0.f0)).setCell ⟨w.heap.size, 1, none⟩ (.int .u32 x.f0.f1)).setCell ⟨w.heap.size, 2, none⟩ (.slice A1 x.f1.length c1)).setCell ⟨w.heap.size, 3, none⟩ (.int .u64 x.f2))) (fun k hk _ => p2 k (by have := hk.2.1; omega))
  clear p2 p3 a0 a1 a2 a3 f0 f1 f2 f3 d0 d1 d2 d3 g0 g1 g2 g3 hx1 hy1 hB1 hR
  generalize ((((w1.setCell ⟨w.heap.size, 0, none⟩ (.int .u64 x.f0.f0)).setCell ⟨w.heap.size, 1, none⟩ (.int .u32 x.f0.f1)).setCell ⟨w.heap.size, 2, none⟩ (.slice A1 x.f1.length c1)).setCell ⟨w.heap.size, 3, none⟩ (.int .u64 x.f2)) = W2 at p1 hy2 hB2 hR2 ⊢
  refine hh.down _ _ ?_
  have a0 := blk_cell p1 0
  have f0 := blk_frozen p1 0
  have d0 := blk_cell hy2 0
  have g0 := blk_frozen hy2 0
  have a1 := blk_cell p1 1
  have f1 := blk_frozen p1 1
  have d1 := blk_cell hy2 1
  have g1 := blk_frozen hy2 1
  have a2 := blk_cell p1 2
  have f2 := blk_frozen p1 2
  have d2 := blk_cell hy2 2
  have g2 := blk_frozen hy2 2
  have a3 := blk_cell p1 3
  have f3 := blk_frozen p1 3
  have d3 := blk_cell hy2 3
  have g3 := blk_frozen hy2 3
  by_cases hd : E < x.f2
  · have dd : decide (E < x.f2) = true := decide_eq_true hd
    have hq' : q = 0 := hq.symm.trans (asE_lt hd)
    clear hd
    go_wp2_with fail
    have hy3 : (W2.setCell ⟨w.heap.size, 3, none⟩ (.int .u64 0)).heap[w.heap.size + 1]? = _ := (Below.heap_setCell _ _ _ _ (by show w.heap.size + 1 ≠ w.heap.size; omega)).trans hy2
    have hB3 := hB2.setCell (p := ⟨w.heap.size, 3, none⟩) (Nat.le_refl _) (.int .u64 0)
    have hR3 := Kd.R_step hR2 (w1 := (W2.setCell ⟨w.heap.size, 3, none⟩ (.int .u64 0))) (fun k hk _ => Below.heap_setCell _ _ _ _ (by show k ≠ w.heap.size; have := hk.2.1; omega))
    obtain ⟨e2, e3, e4⟩ := four_cells hy3 (.int .u64 x.f0.f0) (.int .u32 x.f0.f1) (.slice A1 x.f1.length c1) (.int .u64 0)
    have hBF := hB3.trans (e4 w.heap.size (by omega))
    have hRF := Kd.R_step hR3 (w1 := (((((W2.setCell ⟨w.heap.size, 3, none⟩ (.int .u64 0)).setCell ⟨w.heap.size + 1, 0, none⟩ (.int .u64 x.f0.f0)).setCell ⟨w.heap.size + 1, 1, none⟩ (.int .u32 x.f0.f1)).setCell ⟨w.heap.size + 1, 2, none⟩ (.slice A1 x.f1.length c1)).setCell ⟨w.heap.size + 1, 3, none⟩ (.int .u64 0))) (fun k hk _ => e3 k (by have := hk.2.1; omega))
    clear e3 e4 a0 a1 a2 a3 f0 f1 f2 f3 d0 d1 d2 d3 g0 g1 g2 g3
    generalize (((((W2.setCell ⟨w.heap.size, 3, none⟩ (.int .u64 0)).setCell ⟨w.heap.size + 1, 0, none⟩ (.int .u64 x.f0.f0)).setCell ⟨w.heap.size + 1, 1, none⟩ (.int .u32 x.f0.f1)).setCell ⟨w.heap.size + 1, 2, none⟩ (.slice A1 x.f1.length c1)).setCell ⟨w.heap.size + 1, 3, none⟩ (.int .u64 0)) = WF at e2 hBF hRF ⊢
    have r0 := blk_cell e2 0
    have r1 := blk_cell e2 1
    have r2 := blk_cell e2 2
    have r3 := blk_cell e2 3
    refine bodyPost_ret (v := .agg #[.int .u64 x.f0.f0, .int .u32 x.f0.f1, .slice A1 x.f1.length c1, .int .u64 0]) (by simp [results, Try.results17, go_sem, r0, r1, r2, r3]; try rfl) rfl ?_
    exact ⟨_, by rw [hq'], Kd.R_lower (Kd.R_mono hRF (fun _ _ => trivial)) (by omega), hBF⟩
  · have dd : decide (E < x.f2) = false := decide_eq_false hd
    have hq' : q = x.f2 := hq.symm.trans (asE_ge hd)
    clear hd
    go_wp2_with fail
    have hy3 := hy2
    have hB3 := hB2
    have hR3 := hR2
    obtain ⟨e2, e3, e4⟩ := four_cells hy3 (.int .u64 x.f0.f0) (.int .u32 x.f0.f1) (.slice A1 x.f1.length c1) (.int .u64 x.f2)
    have hBF := hB3.trans (e4 w.heap.size (by omega))
    have hRF := Kd.R_step hR3 (w1 := ((((W2.setCell ⟨w.heap.size + 1, 0, none⟩ (.int .u64 x.f0.f0)).setCell ⟨w.heap.size + 1, 1, none⟩ (.int .u32 x.f0.f1)).setCell ⟨w.heap.size + 1, 2, none⟩ (.slice A1 x.f1.length c1)).setCell ⟨w.heap.size + 1, 3, none⟩ (.int .u64 x.f2))) (fun k hk _ => e3 k (by have := hk.2.1; omega))
    clear e3 e4 a0 a1 a2 a3 f0 f1 f2 f3 d0 d1 d2 d3 g0 g1 g2 g3
    generalize ((((W2.setCell ⟨w.heap.size + 1, 0, none⟩ (.int .u64 x.f0.f0)).setCell ⟨w.heap.size + 1, 1, none⟩ (.int .u32 x.f0.f1)).setCell ⟨w.heap.size + 1, 2, none⟩ (.slice A1 x.f1.length c1)).setCell ⟨w.heap.size + 1, 3, none⟩ (.int .u64 x.f2)) = WF at e2 hBF hRF ⊢
    have r0 := blk_cell e2 0
    have r1 := blk_cell e2 1
    have r2 := blk_cell e2 2
    have r3 := blk_cell e2 3
    refine bodyPost_ret (v := .agg #[.int .u64 x.f0.f0, .int .u32 x.f0.f1, .slice A1 x.f1.length c1, .int .u64 x.f2]) (by simp [results, Try.results17, go_sem, r0, r1, r2, r3]; try rfl) rfl ?_
    exact ⟨_, by rw [hq'], Kd.R_lower (Kd.R_mono hRF (fun _ _ => trivial)) (by omega), hBF⟩
end Go.Proofs.Ytacacigpendneaa.QV
/- maps.Clone of a map of versions. -/
namespace Go.Proofs.Ytacacigpendneaa.QV
open Go.RowKit Go.Proofs.YtacacigpendneaaW.PrintWords Go.Proofs.Ytacacigpendneaa.Mp
set_option linter.unusedVariables false
set_option linter.unusedSimpArgs false
set_option maxRecDepth 100000
theorem cloneMap_any (m n : Nat) (f : Nm → Option Value) (w : World) (hm : MapIs nmK w m n f) :
    Calls Try.prog 38 #[.map (some m)] w fun e w' => e = .returned (.map (some w.heap.size)) ∧ MapIs nmK w' w.heap.size n f ∧ Below w.heap.size w w' := by
  obtain ⟨D, ⟨es, clock, hb, F, hs, hD⟩, hd⟩ := hm
  have hq := fun w => run_eql_map_nil_sl (P := Try.prog) w 74 _ _ (some m) Try.underlying74
  go_enter Try.func38, Try.ntmps38
  go_wp2
  rw [run_callFunc_extern Try.func53 (by kernel_rfl) (by kernel_rfl) (by kernel_rfl) (e := Extern.MapsClone.clone) (by kernel_rfl), run_maps_clone_sl w 74 hb]
  simp only [Result.andThen]
  rw [Oper.upon_value]
  go_wp2
  rw [run_typeAssert_map_sl _ 74 20 _ _ _ Try.underlying74]
  simp only [Result.andThen]
  rw [Oper.upon_value]
  go_wp2
  go_ret
  refine ⟨rfl, ⟨D, ⟨es, clock, (Go.MapKept.heap_alloc w _).1, F, hs, hD⟩, hd⟩, (Below.refl _ w).alloc (Nat.le_refl _) _⟩
end Go.Proofs.Ytacacigpendneaa.QV
/- A region that draws its order, in a round of a range over a function: one condition S on the world for the whole region; what yields its value in every world that meets S is taken first. -/
namespace Go.Proofs.Ytacacigpendneaa.Seq
open Go Go.RowKit
set_option linter.unusedVariables false

abbrev Rn (l : Nat) : Fence := Fence.wide.inRound l
theorem calls_in (l n : Nat) {P : Program} {f : FuncId} {args : Array Value} {w : World} {R : Ending → World → Prop} (h : Calls P f args w R) : CallsIn (Rn l) n P f args w R :=
  CallsIn.inRound l (callsIn_wide.2 h)
theorem rows_in (l n : Nat) {P : Program} {row : String} {args : Array Value} {w : World} {R : Value → World → Prop} (h : Rows P row args w R) : RowsIn (Rn l) n P row args w R := by
  intro c cs _
  obtain ⟨v, w', r, s⟩ := h c cs
  exact ⟨v, w', r, stepsIn_wide.2 s⟩
/-- An operation that is no deferred call, carried out in a round, goes as anywhere. -/
theorem op_in (l n : Nat) {P : Program} {o : Oper} {a : Act} {w : World} {K : Act → World → Prop} {Q : Exit → Act → World → Prop} (hnd : ∀ c, o.op ≠ .defer c) (h : o.wp P a w K Q) : o.wpIn (Rn l) n P a w K Q := by
  refine ⟨fun _ _ => trivial, ?_⟩
  unfold Oper.wp at h
  rw [show (Rn l).round = some l from rfl, Oper.semAt_some l _ _ hnd]
  generalize (execOp a.eval o).run P w = r at h
  cases r with
  | ok x w' =>
    cases x <;> simp only [Oper.upon, Oper.uponIn] at h ⊢
    case value v => exact h
    case skip => exact h
    case defer d => exact h
    case enter f args => exact ⟨(fun h => by cases h), calls_in l _ h⟩
    case row row args => exact ⟨(fun h => by cases h), rows_in l _ h⟩
  | halt x w' => cases x <;> simp only [Oper.upon, Oper.uponIn] at h ⊢; exact h

section
variable {l : Nat} {P : Program} {ops : Array Oper} {Q : Exit → Act → World → Prop} {S : World → Prop} {d : Nat}
def noDefer (ops : Array Oper) : Bool := ops.toList.all fun o => match o.op with | .defer _ => false | _ => true
theorem noDefer_spec (h : noDefer ops = true) (j : Nat) (o : Oper) (ho : ops[j]? = some o) : ∀ c, o.op ≠ .defer c := by
  intro c e
  have hm : o ∈ ops.toList := by
    have := Array.mem_of_getElem? ho
    simpa using this
  have := List.all_eq_true.1 h o hm
  rw [e] at this
  simp at this

/-- Number d waits for number i. -/
def waitsOn (ops : Array Oper) (d i : Nat) : Bool := match ops[d]? with
  | some o => o.after.toList.any (fun e => Region.binds .any e && e.on == i)
  | none => true
/-- S is to hold behind each operation but number d. -/
def wpAnyR (l : Nat) (P : Program) (ops : Array Oper) (Q : Exit → Act → World → Prop) (S : World → Prop) (d : Nat) : Nat → Array Bool → Act → World → Prop
  | 0, listed, a, w => Region.ready .any ops listed = [] ∧ Q .normal a w
  | fuel + 1, listed, a, w => (Region.ready .any ops listed = [] → Q .normal a w) ∧
    ∀ i ∈ Region.ready .any ops listed, wpOpIn (Rn l) 0 P ops Q i (fun a' w' => (i = d ∨ S w') ∧ wpAnyR l P ops Q S d fuel (listed.setIfInBounds i true) a' w') a w
theorem wpAnyIn_of_R : ∀ (fuel : Nat) (listed : Array Bool) (a : Act) (w : World), wpAnyR l P ops Q S d fuel listed a w → wpAnyIn (Rn l) 0 P .any ops Q fuel listed a w
  | 0, _, _, _, h => h
  | fuel + 1, _, _, _, h => ⟨h.1, fun i hi => wpOpIn_mono (fun a' w' h' => wpAnyIn_of_R fuel _ a' w' h'.2) (h.2 i hi)⟩
theorem YieldsIf.wpOpR {i : Nat} {o : Oper} {v : Value} {a : Act} (hnd : noDefer ops = true) (hi : ops[i]? = some o) (hy : YieldsIf P ops S o v a) {K : Act → World → Prop} {w : World} (hS : S w) (h : K (a.put o.dst v) w) : wpOpIn (Rn l) 0 P ops Q i K a w := by
  unfold Go.wpOpIn
  simp only [hi]
  rcases hy with ⟨hw, hv⟩ | ⟨hw, rfl⟩
  · simp only [hw, if_true]
    exact op_in l 0 (noDefer_spec hnd i o hi) (by simp only [Oper.wp, hv w hS, Oper.upon]; exact h)
  · simp only [hw, Bool.false_eq_true, if_false]; exact ⟨fun _ _ => trivial, h⟩
theorem wpOpR_putIf {j : Nat} {oi oj : Oper} {v : Value} (hnd : noDefer ops = true) (hj : ops[j]? = some oj) (hap : oi.apart ops oj = true)
    (hsi : ∀ cs b, oi.op ≠ .select cs b) (hsj : ∀ cs b, oj.op ≠ .select cs b)
    (hQ : ∀ c a w, Q (.panic c) (a.put oi.dst v) w → Q (.panic c) a w) {K : Act → World → Prop} {a : Act} {w : World}
    (hy : YieldsIf P ops S oi v a) (h : wpOpIn (Rn l) 0 P ops Q j K (a.put oi.dst v) w) :
    wpOpIn (Rn l) 0 P ops Q j (fun a' w' => YieldsIf P ops S oi v a' ∧ K (a'.put oi.dst v) w') a w := by
  have hnj := noDefer_spec hnd j oj hj
  obtain ⟨h1, h2, h3⟩ := Oper.apart_spec hap
  have keep : ∀ (a : Act), YieldsIf P ops S oi v a → ∀ u, YieldsIf P ops S oi v (a.put oj.dst u) := fun a hy u =>
    hy.of_same (execOp_put oi hsi a oj.dst u h3) (wanted_put oi a oj.dst u h3)
  have keepD : ∀ d, YieldsIf P ops S oi v { a with defers := d :: a.defers } := fun d => hy.of_same rfl rfl
  unfold wpOpIn at *
  simp only [hj] at *
  rw [wanted_put oj a oi.dst v h1] at h
  split
  · rename_i hw
    simp only [hw, if_true] at h
    unfold Oper.wpIn at *
    refine ⟨fun _ _ => trivial, ?_⟩
    have h := h.2
    rw [show (Rn l).round = some l from rfl, Oper.semAt_some l _ _ hnj] at h ⊢
    rw [execOp_put oj hsj a oi.dst v h1] at h
    generalize (execOp a.eval oj).run P w = r at *
    cases r with
    | ok x w' =>
      cases x <;> simp only [Oper.uponIn] at h ⊢
      case value u => exact ⟨keep a hy u, by rw [← Act.put_comm a v u h2]; exact h⟩
      case skip => exact ⟨keep a hy _, by rw [← Act.put_comm a v undef h2]; exact h⟩
      case defer d =>
        refine ⟨keep _ (keepD d) _, ?_⟩
        rw [← Act.put_comm _ v undef h2, ← Act.put_defers]
        exact h
      case enter f args =>
        refine ⟨h.1, CallsIn.mono h.2 fun e w'' he => ?_⟩
        cases e with
        | returned u => exact ⟨keep a hy u, by rw [← Act.put_comm a v u h2]; exact he⟩
        | panicked c => exact hQ _ _ _ he
        | outgrown => exact he
      case row row args => exact ⟨h.1, RowsIn.mono h.2 fun u w'' he => ⟨keep a hy u, by rw [← Act.put_comm a v u h2]; exact he⟩⟩
      case round l f tmps assign body =>
        refine ⟨h.1, RoundIn.mono h.2 fun e w'' he => ?_⟩
        cases e with
        | returned u => exact ⟨keep a hy u, by rw [← Act.put_comm a v u h2]; exact he⟩
        | panicked c => exact hQ _ _ _ he
        | outgrown => exact he
    | halt x w' =>
      cases x <;> simp only [Oper.uponIn] at h ⊢
      case panic u => exact hQ _ _ _ h
  · rename_i hw
    simp only [hw] at h
    exact ⟨fun _ _ => trivial, keep a hy _, by rw [← Act.put_comm a v undef h2]; exact h.2⟩
theorem wpAnyR_first {i : Nat} {oi : Oper} {v : Value} (hnd : noDefer ops = true) (hwd : waitsOn ops d i = true) (hi : ops[i]? = some oi) (hsel : ∀ (j : Nat) (o : Oper) cs b, ops[j]? = some o → o.op ≠ .select cs b)
    (hQ : ∀ c a w, Q (.panic c) (a.put oi.dst v) w → Q (.panic c) a w) :
    ∀ (fuel : Nat) (listed : Array Bool) (a : Act) (w : World),
      (∀ j oj, ops[j]? = some oj → j ≠ i → listed.getD j true = false → (∀ e ∈ oj.after, Region.binds .any e = true → e.on ≠ i) → oi.apart ops oj = true) →
      i ∈ Region.ready .any ops listed → YieldsIf P ops S oi v a → S w →
      wpAnyR l P ops Q S d fuel (listed.setIfInBounds i true) (a.put oi.dst v) w → wpAnyR l P ops Q S d (fuel + 1) listed a w := by
  intro fuel
  induction fuel with
  | zero =>
    intro listed a w _ hr hy hS H
    refine ⟨fun h => (by rw [h] at hr; cases hr), fun j hj => ?_⟩
    by_cases hji : j = i
    · subst hji; exact YieldsIf.wpOpR hnd hi hy hS ⟨.inr hS, H⟩
    · have := ready_mono hj hji
      rw [H.1] at this
      cases this
  | succ fuel ih =>
    intro listed a w hfree hr hy hS H
    refine ⟨fun h => (by rw [h] at hr; cases hr), fun j hj => ?_⟩
    by_cases hji : j = i
    · subst hji; exact YieldsIf.wpOpR hnd hi hy hS ⟨.inr hS, H⟩
    · have h1 := H.2 j (ready_mono hj hji)
      obtain ⟨hjun, oj, hoj, hall⟩ := mem_ready.1 hj
      have hnot : ∀ e ∈ oj.after, Region.binds .any e = true → e.on ≠ i := fun e he hb heq => by
        have h1 := hall e he hb
        have h0 := (mem_ready.1 hr).1
        rw [heq] at h1
        rcases Nat.lt_or_ge i listed.size with h' | h'
        · simp [h'] at h0 h1; rw [h0] at h1; cases h1
        · simp [Array.getElem?_eq_none h'] at h1
      have h2 := wpOpR_putIf hnd hoj (hfree j oj hoj hji hjun hnot) (fun cs b => hsel i oi cs b hi) (fun cs b => hsel j oj cs b hoj) hQ hy h1
      have hfree' : ∀ k ok, ops[k]? = some ok → k ≠ i → (listed.setIfInBounds j true).getD k true = false →
          (∀ e ∈ ok.after, Region.binds .any e = true → e.on ≠ i) → oi.apart ops ok = true := fun k ok hk hki hun hno => by
        refine hfree k ok hk hki ?_ hno
        by_cases hjk : j = k
        · subst hjk; exact hjun
        · rw [getD_set_ne true hjk] at hun; exact hun
      have hjd : j ≠ d := by
        rintro rfl
        unfold waitsOn at hwd
        rw [hoj] at hwd
        obtain ⟨q, hq, hqb⟩ := List.any_eq_true.1 hwd
        rw [Array.mem_toList_iff] at hq
        rw [Bool.and_eq_true] at hqb
        exact hnot q hq hqb.1 (by simpa using hqb.2)
      refine wpOpIn_mono (fun a' w' h3 => ⟨.inr (h3.2.1.resolve_left hjd), ih (listed.setIfInBounds j true) a' w' hfree' (ready_mono hr (Ne.symm hji)) h3.1 (h3.2.1.resolve_left hjd) ?_⟩) h2
      rw [Array.setIfInBounds_comm _ _ hji]
      exact h3.2.2
/-- Take number i first. -/
theorem wpAnyR_take {i : Nat} {oi : Oper} {v : Value} {fuel : Nat} {listed : Array Bool} {a : Act} {w : World} (hnd : noDefer ops = true) (hwd : waitsOn ops d i = true) (hi : ops[i]? = some oi)
    (hs : Region.noSelect ops = true) (hf : Region.free .any ops listed i = true) (hr : (Region.ready .any ops listed).contains i = true)
    (hQ : ∀ c a w, Q (.panic c) (a.put oi.dst v) w → Q (.panic c) a w) (hy : YieldsIf P ops S oi v a) (hS : S w)
    (h : wpAnyR l P ops Q S d fuel (listed.setIfInBounds i true) (a.put oi.dst v) w) : wpAnyR l P ops Q S d (fuel + 1) listed a w :=
  wpAnyR_first hnd hwd hi (Region.noSelect_spec hs) hQ fuel listed a w (Region.free_spec hi hf) (by simpa using hr) hy hS h
/-- Number i is the only one that may come up: it goes as anywhere. -/
theorem wpAnyR_one {i : Nat} {o : Oper} {fuel : Nat} {listed : Array Bool} {a : Act} {w : World} (hnd : noDefer ops = true) (hr : Region.ready .any ops listed = [i]) (ho : ops[i]? = some o)
    (h : ∀ K' : Act → World → Prop, Shut (∀ a w, (i = d ∨ S w) → wpAnyR l P ops Q S d fuel (listed.setIfInBounds i true) a w → K' a w) → if Region.wanted o (yielded ops a.tmps) = true then Oper.wp P o a w K' Q else K' (a.put o.dst undef) w) :
    wpAnyR l P ops Q S d (fuel + 1) listed a w := by
  refine ⟨fun h0 => (by rw [hr] at h0; cases h0), fun j hj => ?_⟩
  rw [hr] at hj
  obtain rfl := List.mem_singleton.1 hj
  have := h (fun a' w' => (j = d ∨ S w') ∧ wpAnyR l P ops Q S d fuel (listed.setIfInBounds j true) a' w') (fun a w hs hw => ⟨hs, hw⟩)
  unfold Go.wpOpIn
  simp only [ho]
  split
  · rename_i hw; rw [if_pos hw] at this; exact op_in l 0 (noDefer_spec hnd j o ho) this
  · rename_i hw; rw [if_neg hw] at this; exact ⟨fun _ _ => trivial, this⟩
/-- Number i is the only one that may come up, and it is a call of yield (or whatever else goes in a round alone). -/
theorem wpAnyR_oneIn {i : Nat} {o : Oper} {fuel : Nat} {listed : Array Bool} {a : Act} {w : World} (hr : Region.ready .any ops listed = [i]) (ho : ops[i]? = some o)
    (h : ∀ K' : Act → World → Prop, Shut (∀ a w, (i = d ∨ S w) → wpAnyR l P ops Q S d fuel (listed.setIfInBounds i true) a w → K' a w) → if Region.wanted o (yielded ops a.tmps) = true then Oper.wpIn (Rn l) 0 P o a w K' Q else K' (a.put o.dst undef) w) :
    wpAnyR l P ops Q S d (fuel + 1) listed a w := by
  refine ⟨fun h0 => (by rw [hr] at h0; cases h0), fun j hj => ?_⟩
  rw [hr] at hj
  obtain rfl := List.mem_singleton.1 hj
  have := h (fun a' w' => (j = d ∨ S w') ∧ wpAnyR l P ops Q S d fuel (listed.setIfInBounds j true) a' w') (fun a w hs hw => ⟨hs, hw⟩)
  unfold Go.wpOpIn
  simp only [ho]
  split
  · rename_i hw; rw [if_pos hw] at this; exact this
  · rename_i hw; rw [if_neg hw] at this; exact ⟨fun _ _ => trivial, this⟩
theorem wpAnyR_done {listed : Array Bool} {a : Act} {w : World} (hr : Region.ready .any ops listed = []) (h : Q .normal a w) : ∀ fuel, wpAnyR l P ops Q S d fuel listed a w
  | 0 => ⟨hr, h⟩
  | _ + 1 => ⟨fun _ => h, by rw [hr]; simp⟩
/-- The beginning. -/
theorem wpIn_region_R (d : Nat) {id : Nat} {a : Act} {w : World} (hm : P.follows .mixedOrders = true) (hS : S w.drew)
    (h : S w.drew → wpAnyR l P ops Q S d ops.size (Array.replicate ops.size false) a w.drew) : (Code.region id ops true).wpIn (Rn l) 0 P Q a w :=
  wpIn_region_any hm (wpAnyIn_of_R _ _ _ _ (h hS))
end
end Go.Proofs.Ytacacigpendneaa.Seq
/- A range over a function whose body may write some old blocks (Z), of which the iterator no longer reads. -/
namespace Go.Proofs.Ytacacigpendneaa.Seq
open Go Go.RowKit
set_option linter.unusedVariables false
theorem round_in {n : Nat} {P : Program} {l : Nat} {f : FuncId} {tmps : Array Value} {assign body : Code} {w : World} {R : Ending → World → Prop} (l' : Nat) (h : RoundIn Fence.wide n P l f tmps assign body w R) : RoundIn (Rn l') n P l f tmps assign body w R := h
/-- WHAT AN ITERATOR GIVES: whatever the consumer keeps in its own blocks (J, between two rounds; Jx, once it has said 'no more'), if each round takes an element on, the whole list has come, or a beginning of it, at whose last element the consumer has said 'no more'; the iterator has written only what it made itself. -/
def SeqZ {α : Type} (P : Program) (g : Nat) (lb : Array Value) (Z : Nat → Prop) (Rd : World → (Nat → Prop) → α → Array Value → Prop) (xs : List α) (w : World) : Prop :=
  ∀ (l : Nat) (J Jx : List α → (Nat → Prop) → World → Prop) (W : World) (M : Nat → Prop),
    Below w.heap.size w W → (∀ i, M i → (Z i ∨ w.heap.size ≤ i) ∧ i < W.heap.size) →
    (∀ pre M A B, J pre M A → Kpt (fun i => W.heap.size ≤ i ∧ ¬ M i) A B → J pre M B) →
    (∀ pre M A B, Jx pre M A → Kpt (fun i => W.heap.size ≤ i ∧ ¬ M i) A B → Jx pre M B) →
    (∀ pre x vs N A M, J pre M A → (pre ++ [x]) <+: xs → Rd A N x vs → (∀ i, M i → (Z i ∨ w.heap.size ≤ i) ∧ i < A.heap.size) → (∀ i, N i → W.heap.size ≤ i ∧ i < A.heap.size ∧ ¬ M i) → W.heap.size ≤ A.heap.size →
      YieldAt Fence.wide 0 P l vs A fun e B => ∃ M', (∀ i, M' i → (M i ∨ N i ∨ A.heap.size ≤ i) ∧ i < B.heap.size) ∧ Kpt (fun i => M i ∨ N i) A B ∧
        ((e = .returned (.bool true) ∧ J (pre ++ [x]) M' B) ∨ (e = .returned (.bool false) ∧ Jx (pre ++ [x]) M' B))) →
    J [] M W →
    Calls P g (#[.func (.yield l) #[] #[]] ++ lb) W fun e W' => (∃ v, e = .returned v) ∧ ∃ M', (∀ i, M' i → (M i ∨ W.heap.size ≤ i) ∧ i < W'.heap.size) ∧ Kpt M W W' ∧ (J xs M' W' ∨ ∃ pre, pre <+: xs ∧ Jx pre M' W')

theorem wpIn_rangeZ {α : Type} {P : Program} {n : Nat} {g : Operand} {ps : Array Tmp} {assign body : Code} {Q : Exit → Act → World → Prop} {a : Act} {w : World}
    {gf : Nat} {lb : Array Value} (hg : a.eval g = .func (.func gf) #[] lb) (eg : ∀ args w, (callFunc gf args).run P w = .ok (.enter gf args) w)
    {Z : Nat → Prop} {Rd : World → (Nat → Prop) → α → Array Value → Prop} {xs : List α} {w0 : World} (hseq : SeqZ P gf lb Z Rd xs w0) (hb0 : Below w0.heap.size w0 w)
    (hps : ∀ A N x vs, Rd A N x vs → vs.size = ps.size)
    (hRd : ∀ A B N x vs, Rd A N x vs → Kpt (fun i => (Z i ∨ w0.heap.size ≤ i) ∧ ¬ N i) A B → Rd B N x vs)
    (I : List α → (Nat → Prop) → World → Prop) (Ix : Code → List α → (Nat → Prop) → World → Prop)
    (hI : ∀ pre M A B, I pre M A → Kpt (fun i => w.heap.size ≤ i ∧ ¬ M i) A B → I pre M B)
    (hIx : ∀ c pre M A B, Ix c pre M A → Kpt (fun i => w.heap.size ≤ i ∧ ¬ M i) A B → Ix c pre M B)
    (M : Nat → Prop) (hM : ∀ i, M i → (Z i ∨ w0.heap.size ≤ i) ∧ i < w.heap.size) (h0 : I [] M w)
    (Ax : α → Array Value → Act → (Nat → Prop) → World → Prop) (hAx : ∀ x vs a₁ M A B, Ax x vs a₁ M A → Kpt (fun i => w.heap.size ≤ i ∧ ¬ M i) A B → Ax x vs a₁ M B)
    (hassign : ∀ l pre x vs N A M, I pre M A → (pre ++ [x]) <+: xs → Rd A N x vs → (∀ i, M i → (Z i ∨ w0.heap.size ≤ i) ∧ i < A.heap.size) → (∀ i, N i → w.heap.size ≤ i ∧ i < A.heap.size ∧ ¬ M i) →
      assign.wpIn (Fence.wide.inRound l) 0 P (Exit.then (fun a₁ B => ∃ M', (∀ i, M' i → (M i ∨ A.heap.size ≤ i) ∧ i < B.heap.size) ∧ Kpt M A B ∧ I pre M' B ∧ Ax x vs a₁ M' B) (fun _ _ _ => False))
        { tmps := (ps.zip vs).foldl (fun t (p, v) => t.setIfInBounds p v) a.tmps, defers := [] } A)
    (hbody : ∀ l pre x vs N A M a₁, I pre M A → (pre ++ [x]) <+: xs → Rd A N x vs → Ax x vs a₁ M A → (∀ i, M i → (Z i ∨ w0.heap.size ≤ i) ∧ i < A.heap.size) → (∀ i, N i → w.heap.size ≤ i ∧ i < A.heap.size ∧ ¬ M i) →
      body.wpIn (Fence.wide.inRound l) 0 P (PostS M N I Ix (pre ++ [x]) A) a₁ A)
    (hdone : ∀ D W M', I xs M' W → Kpt M w W → (∀ i, M' i → (M i ∨ w.heap.size ≤ i) ∧ i < W.heap.size) → W.heap[D]? = some (.deferred (some [])) → w.heap.size ≤ D → ¬ M' D →
      Q .normal { a with defers := { target := .collected D, args := #[] } :: a.defers } W)
    (hstop : ∀ D c pre W M', pre <+: xs → Ix c pre M' W → Kpt M w W → (∀ i, M' i → (M i ∨ w.heap.size ≤ i) ∧ i < W.heap.size) → W.heap[D]? = some (.deferred (some [])) → w.heap.size ≤ D → ¬ M' D →
      c.wpIn Fence.wide n P Q { a with defers := { target := .collected D, args := #[] } :: a.defers } W) :
    (Code.rangeFunc g ps assign body).wpIn Fence.wide n P Q a w := by
  refine wpIn_rangeFunc ?_
  intro fn hfn
  obtain ⟨rec, hrec⟩ : ∃ rec : LoopState → Option Code → Loop, rec = fun st pe => { state := st, pending := pe, fn, tmps := a.tmps, params := ps, assign, body, defers := w.heap.size } := ⟨_, rfl⟩
  obtain ⟨W1, hW1⟩ : ∃ W1, (w.alloc (.deferred (some []))).alloc (.loop (rec .ready none)) = W1 := ⟨_, rfl⟩
  have hL1 : W1.heap[w.heap.size + 1]? = some (.loop (rec .ready none)) := by
    rw [← hW1]; have := World.alloc_heap_new (w.alloc (.deferred (some []))) (.loop (rec .ready none)); rwa [World.size_alloc] at this
  have hK1 : W1.heap[w.heap.size]? = some (.deferred (some [])) := by
    rw [← hW1]; exact (Below.heap_alloc _ _ _ (by simp)).trans (World.alloc_heap_new w _)
  have hB1 : Below w.heap.size w W1 := by rw [← hW1]; exact ((Below.refl _ w).alloc (Nat.le_refl _) _).alloc (by simp) _
  have hs1 : W1.heap.size = w.heap.size + 2 := by rw [← hW1]; simp
  have hI1 : I [] M W1 := hI _ _ _ _ h0 (.of_new _ hB1)
  have hb1 : Below w0.heap.size w0 W1 := hb0.trans (hB1.mono hb0.size)
  have hw0 : w0.heap.size ≤ w.heap.size := hb0.size
  refine ⟨w.heap.size + 1, [{ target := .collected w.heap.size, args := #[] }], W1, { target := .fn (.func gf) lb, args := #[.func (.yield (w.heap.size + 1)) #[] #[]] }, W1, gf,
    #[.func (.yield (w.heap.size + 1)) #[] #[]] ++ lb, W1, ?_, ?_, ?_, ?_, (fun h => by cases h), ?_⟩
  · rw [← hW1, hrec]; exact run_enterLoop_outer _ _ _ _ _
  · simp only [resolve, hg]
    simp [go_sem]
  · intro f' hf'; trivial
  · simp [invoke, go_sem, eg]
  · obtain ⟨J, hJd⟩ : ∃ J : (LoopState → Option Code → Prop) → ((List α) → (Nat → Prop) → World → Option Code → Prop) → List α → (Nat → Prop) → World → Prop,
        J = fun S X pre Mh A => ∃ M st pe, S st pe ∧ (∀ i, Mh i ↔ (M i ∨ i = w.heap.size + 1 ∨ i = w.heap.size)) ∧ (∀ i, M i → i ≠ w.heap.size + 1 ∧ i ≠ w.heap.size) ∧ X pre M A pe ∧
          A.heap[w.heap.size + 1]? = some (.loop (rec st pe)) ∧ A.heap[w.heap.size]? = some (.deferred (some [])) := ⟨_, rfl⟩
    have hJst : ∀ S X pre Mh A B, (∀ pre M A B pe, X pre M A pe → Kpt (fun i => w.heap.size ≤ i ∧ ¬ M i) A B → X pre M B pe) → J S X pre Mh A → Kpt (fun i => W1.heap.size ≤ i ∧ ¬ Mh i) A B → J S X pre Mh B := by
      intro S X pre Mh A B hX hj hk
      rw [hJd] at hj ⊢
      obtain ⟨M, st, pe, hS, hM1, hM2, hx, hl, hd⟩ := hj
      exact ⟨M, st, pe, hS, hM1, hM2, hX _ _ _ _ _ hx (hk.mono (fun i _ h => ⟨by omega, fun k => h.2 ((hM1 i).2 (.inl k))⟩)), hk.at hl (fun h => h.2 ((hM1 _).2 (.inr (.inl rfl)))), hk.at hd (fun h => h.2 ((hM1 _).2 (.inr (.inr rfl))))⟩
    refine ((callsIn_wide (n := n - 1)).2 (hseq (w.heap.size + 1) (J (fun st pe => st = .ready ∧ pe = none) (fun pre M A _ => I pre M A)) (J (fun st pe => st = .done ∧ pe.isSome = true) (fun pre M A pe => ∃ c, pe = some c ∧ Ix c pre M A)) W1 (fun i => M i ∨ i = w.heap.size + 1 ∨ i = w.heap.size) hb1 ?_ ?_ ?_ ?_ ?_)).mono ?_
    · intro i hi
      rcases hi with h | h | h
      · exact ⟨(hM i h).1, by have := (hM i h).2; omega⟩
      · exact ⟨.inr (by omega), by omega⟩
      · exact ⟨.inr (by omega), by omega⟩
    · intro pre Mh A B hj hk
      exact hJst _ _ _ _ _ _ (fun pre M A B pe h k => hI _ _ _ _ h k) hj hk
    · intro pre Mh A B hj hk
      exact hJst _ _ _ _ _ _ (fun pre M A B pe h k => by obtain ⟨c, e, h⟩ := h; exact ⟨c, e, hIx _ _ _ _ _ h k⟩) hj hk
    · -- ONE ROUND
      intro pre x vs N A Mh hj hpre hrd hMh hN hWA
      rw [hJd] at hj
      obtain ⟨M2, st, pe, ⟨rfl, rfl⟩, hM1, hM2, hi, hl, hd⟩ := hj
      have hMA : ∀ i, M2 i → (Z i ∨ w0.heap.size ≤ i) ∧ i < A.heap.size := fun i h => hMh i ((hM1 i).2 (.inl h))
      have hNA : ∀ i, N i → w.heap.size ≤ i ∧ i < A.heap.size ∧ ¬ M2 i := fun i h => by
        obtain ⟨h1, h2, h3⟩ := hN i h
        exact ⟨by omega, h2, fun k => h3 ((hM1 i).2 (.inl k))⟩
      have hNl : ∀ i, N i → i ≠ w.heap.size + 1 ∧ i ≠ w.heap.size := fun i h => ⟨fun e => (hN i h).2.2 ((hM1 i).2 (.inr (.inl e))), fun e => (hN i h).2.2 ((hM1 i).2 (.inr (.inr e)))⟩
      have hlA : w.heap.size + 1 < A.heap.size := (Array.getElem?_eq_some_iff.1 hl).1
      have hy := run_yield (P := P) (args := vs) hl (by rw [hrec]; exact hps _ _ _ _ hrd)
      rw [hrec] at hy
      refine ⟨fn, _, assign, body, hy, roundIn_of_wpIn hfn (wpIn_mono (hassign _ pre x vs N A M2 hi hpre hrd hMA hNA) ?_)⟩
      rintro e a₁ B hp
      cases e with
      | exit id => exact hp.elim
      | goto t => exact hp.elim
      | ret => exact hp.elim
      | panic c => exact hp.elim
      | outgrown => exact hp.elim
      | normal =>
        obtain ⟨M3, h31, h32, hi3, hax⟩ := hp
        have hl3 : B.heap[w.heap.size + 1]? = some (.loop (rec .ready none)) := h32.at hl (fun h => (hM2 _ h).1 rfl)
        have hd3 : B.heap[w.heap.size]? = some (.deferred (some [])) := h32.at hd (fun h => (hM2 _ h).2 rfl)
        have hM3 : ∀ i, M3 i → i ≠ w.heap.size + 1 ∧ i ≠ w.heap.size := fun i h => by
          rcases (h31 i h).1 with k | k
          · exact hM2 i k
          · omega
        have hNM3 : ∀ i, N i → ¬ M3 i := fun i h k => by
          rcases (h31 i k).1 with z | z
          · exact (hNA i h).2.2 z
          · have := (hNA i h).2.1; omega
        refine ⟨_, run_beginRound hl3 (by rw [hrec]), ?_⟩
        obtain ⟨B2, hB2⟩ : ∃ B2, B.putObj (w.heap.size + 1) (.loop { rec .ready none with state := .busy }) = B2 := ⟨_, rfl⟩
        rw [hB2]
        have hk2 : Kpt (fun i => i = w.heap.size + 1) B B2 := by rw [← hB2]; exact .putObj _ _ _
        have hl2 : B2.heap[w.heap.size + 1]? = some (.loop { rec .ready none with state := .busy }) := by rw [← hB2]; exact World.putObj_heap_same (Array.getElem?_eq_some_iff.1 hl3).1
        have hd2 : B2.heap[w.heap.size]? = some (.deferred (some [])) := hk2.at hd3 (by omega)
        have hsz2 : B2.heap.size = B.heap.size := by rw [← hB2]; simp [World.putObj]
        have hk2M : Kpt (fun i => w.heap.size ≤ i ∧ ¬ M3 i) B B2 := hk2.mono (fun i _ e => ⟨by omega, fun k => (hM3 i k).1 e⟩)
        have hrd2 : Rd B2 N x vs := hRd _ _ _ _ _ hrd (h32.trans hk2 (fun i hi h => by
          rcases h with h | h
          · exact ⟨(hMA i h).1, fun k => (hNA i k).2.2 h⟩
          · exact ⟨.inr (by omega), fun k => (hNl i k).1 h⟩))
        have hsAB := h32.size
        refine wpIn_mono (hbody _ pre x vs N B2 M3 a₁ (hI _ _ _ _ hi3 hk2M) hpre hrd2 (hAx _ _ _ _ _ _ hax hk2M) ?_ ?_) ?_
        · intro i h
          have h1 := (h31 i h).2
          rcases (h31 i h).1 with k | k
          · exact ⟨(hMA i k).1, by omega⟩
          · exact ⟨.inr (by omega), by omega⟩
        · intro i h
          have := hNA i h
          exact ⟨this.1, by omega, hNM3 i h⟩
        have fin : ∀ (jump : Option Code) (B3 : World) (M4 : Nat → Prop), Kpt (fun i => M3 i ∨ N i) B2 B3 → (∀ i, M4 i → (M3 i ∨ N i ∨ B2.heap.size ≤ i) ∧ i < B3.heap.size) →
            (Instr.endRound (w.heap.size + 1) jump).run P B3 = .ok (.bool jump.isNone) (B3.putObj (w.heap.size + 1) (.loop (rec (if jump.isNone then .ready else .done) jump))) ∧
            (B3.putObj (w.heap.size + 1) (.loop (rec (if jump.isNone then .ready else .done) jump))).heap[w.heap.size + 1]? = some (.loop (rec (if jump.isNone then .ready else .done) jump)) ∧
            (B3.putObj (w.heap.size + 1) (.loop (rec (if jump.isNone then .ready else .done) jump))).heap[w.heap.size]? = some (.deferred (some [])) ∧
            Kpt (fun i => Mh i ∨ N i) A (B3.putObj (w.heap.size + 1) (.loop (rec (if jump.isNone then .ready else .done) jump))) ∧
            (∀ i, (M4 i ∨ i = w.heap.size + 1 ∨ i = w.heap.size) → (Mh i ∨ N i ∨ A.heap.size ≤ i) ∧ i < (B3.putObj (w.heap.size + 1) (.loop (rec (if jump.isNone then .ready else .done) jump))).heap.size) ∧
            (∀ i, M4 i → i ≠ w.heap.size + 1 ∧ i ≠ w.heap.size) ∧
            Kpt (fun i => w.heap.size ≤ i ∧ ¬ M4 i) B3 (B3.putObj (w.heap.size + 1) (.loop (rec (if jump.isNone then .ready else .done) jump))) := by
          intro jump B3 M4 hk3 h4
          have hl4 : B3.heap[w.heap.size + 1]? = some (.loop { rec .ready none with state := .busy }) := hk3.at hl2 (fun h => by rcases h with h | h; exact (hM3 _ h).1 rfl; exact (hNl _ h).1 rfl)
          have hd4 : B3.heap[w.heap.size]? = some (.deferred (some [])) := hk3.at hd2 (fun h => by rcases h with h | h; exact (hM3 _ h).2 rfl; exact (hNl _ h).2 rfl)
          have hr := run_endRound (P := P) jump hl4
          have hlt := (Array.getElem?_eq_some_iff.1 hl4).1
          have hsz3 := hk3.size
          have hM4 : ∀ i, M4 i → i ≠ w.heap.size + 1 ∧ i ≠ w.heap.size := fun i h => by
            rcases (h4 i h).1 with k | k | k
            · exact hM3 i k
            · exact hNl i k
            · omega
          have hpo : Kpt (fun i => i = w.heap.size + 1) B3 (B3.putObj (w.heap.size + 1) (.loop (rec (if jump.isNone then .ready else .done) jump))) := .putObj _ _ _
          refine ⟨by rw [hrec] at hr ⊢; exact hr, World.putObj_heap_same hlt, (World.putObj_heap_other (by omega)).trans hd4, ?_, ?_, hM4, hpo.mono (fun i _ e => ⟨by omega, fun k => (hM4 i k).1 e⟩)⟩
          · refine Kpt.trans (M1 := fun i => Mh i ∨ N i) ?_ (hpo.mono (M' := fun i => i = w.heap.size + 1) (fun i _ e => e)) (fun i hi h => by
              rcases h with h | h
              · exact h
              · exact .inl ((hM1 i).2 (.inr (.inl h))))
            refine Kpt.trans (M1 := fun i => Mh i ∨ N i) ?_ hk3 (fun i hi h => by
              rcases h with h | h | h
              · exact h
              · rcases (h31 i h).1 with k | k
                · exact .inl ((hM1 i).2 (.inl k))
                · omega
              · exact .inr h)
            exact h32.trans hk2 (fun i hi h => by
              rcases h with h | h
              · exact .inl ((hM1 i).2 (.inl h))
              · exact .inl ((hM1 i).2 (.inr (.inl h))))
          · intro i h
            have hps : (B3.putObj (w.heap.size + 1) (.loop (rec (if jump.isNone then .ready else .done) jump))).heap.size = B3.heap.size := by simp [World.putObj]
            rw [hps]
            rcases h with h | h | h
            · refine ⟨?_, (h4 i h).2⟩
              rcases (h4 i h).1 with k | k | k
              · rcases (h31 i k).1 with z | z
                · exact .inl ((hM1 i).2 (.inl z))
                · exact .inr (.inr z)
              · exact .inr (.inl k)
              · exact .inr (.inr (by omega))
            · exact ⟨.inl ((hM1 i).2 (.inr (.inl h))), by omega⟩
            · exact ⟨.inl ((hM1 i).2 (.inr (.inr h))), by omega⟩
        rintro e a3 B3 hp
        cases e with
        | normal =>
          obtain ⟨M4, h41, h42, hi4⟩ := hp
          obtain ⟨f1, f2, f3, f4, f5, f6, f7⟩ := fin none B3 M4 h42 h41
          refine ⟨_, _, f1, _, f5, f4, .inl ⟨rfl, ?_⟩⟩
          rw [hJd]
          exact ⟨M4, _, _, ⟨rfl, rfl⟩, fun _ => Iff.rfl, f6, hI _ _ _ _ hi4 f7, f2, f3⟩
        | ret =>
          obtain ⟨M4, h41, h42, hi4⟩ := hp
          obtain ⟨f1, f2, f3, f4, f5, f6, f7⟩ := fin (some .ret) B3 M4 h42 h41
          refine ⟨_, _, f1, _, f5, f4, .inr ⟨rfl, ?_⟩⟩
          rw [hJd]
          exact ⟨M4, _, _, ⟨rfl, rfl⟩, fun _ => Iff.rfl, f6, ⟨_, rfl, hIx _ _ _ _ _ hi4 f7⟩, f2, f3⟩
        | exit id =>
          obtain ⟨M4, h41, h42, hi4⟩ := hp
          obtain ⟨f1, f2, f3, f4, f5, f6, f7⟩ := fin (some (.exit id)) B3 M4 h42 h41
          refine ⟨_, _, f1, _, f5, f4, .inr ⟨rfl, ?_⟩⟩
          rw [hJd]
          exact ⟨M4, _, _, ⟨rfl, rfl⟩, fun _ => Iff.rfl, f6, ⟨_, rfl, hIx _ _ _ _ _ hi4 f7⟩, f2, f3⟩
        | goto t =>
          obtain ⟨M4, h41, h42, hi4⟩ := hp
          obtain ⟨f1, f2, f3, f4, f5, f6, f7⟩ := fin (some (.goto t)) B3 M4 h42 h41
          refine ⟨_, _, f1, _, f5, f4, .inr ⟨rfl, ?_⟩⟩
          rw [hJd]
          exact ⟨M4, _, _, ⟨rfl, rfl⟩, fun _ => Iff.rfl, f6, ⟨_, rfl, hIx _ _ _ _ _ hi4 f7⟩, f2, f3⟩
        | panic ch => exact hp.elim
        | outgrown => exact hp.elim
    · rw [hJd]
      exact ⟨M, _, _, ⟨rfl, rfl⟩, fun _ => Iff.rfl, fun i h => by have := (hM i h).2; omega, hI1, hL1, hK1⟩
    · -- BEHIND THE ITERATOR
      rintro e W2 ⟨⟨v, rfl⟩, Mh, hm1, hk, hj⟩
      have ends : ∀ (M4 : Nat → Prop) (st : LoopState) (pe : Option Code), st ≠ .busy → (∀ i, Mh i ↔ (M4 i ∨ i = w.heap.size + 1 ∨ i = w.heap.size)) → (∀ i, M4 i → i ≠ w.heap.size + 1 ∧ i ≠ w.heap.size) → W2.heap[w.heap.size + 1]? = some (.loop (rec st pe)) → W2.heap[w.heap.size]? = some (.deferred (some [])) →
          (Instr.endLoop (w.heap.size + 1)).run P W2 = .ok pe (W2.putObj (w.heap.size + 1) (.loop (rec .exhausted pe))) ∧
          Kpt (fun i => w.heap.size ≤ i ∧ ¬ M4 i) W2 (W2.putObj (w.heap.size + 1) (.loop (rec .exhausted pe))) ∧ Kpt M w (W2.putObj (w.heap.size + 1) (.loop (rec .exhausted pe))) ∧
          (∀ i, M4 i → (M i ∨ w.heap.size ≤ i) ∧ i < (W2.putObj (w.heap.size + 1) (.loop (rec .exhausted pe))).heap.size) ∧ (W2.putObj (w.heap.size + 1) (.loop (rec .exhausted pe))).heap[w.heap.size]? = some (.deferred (some [])) := by
        intro M4 st pe hst h1 h2 hl hd
        have hr := run_endLoop (P := P) hl (by rw [hrec]; exact hst)
        have hpo : Kpt (fun i => i = w.heap.size + 1) W2 (W2.putObj (w.heap.size + 1) (.loop (rec .exhausted pe))) := .putObj _ _ _
        have hps : (W2.putObj (w.heap.size + 1) (.loop (rec .exhausted pe))).heap.size = W2.heap.size := by simp [World.putObj]
        refine ⟨by rw [hrec] at hr ⊢; exact hr, hpo.mono (fun i _ e => ⟨by omega, fun k => (h2 i k).1 e⟩), ?_, fun i h => ?_, (World.putObj_heap_other (by omega)).trans hd⟩
        · refine Kpt.trans (M1 := M) ((Kpt.of_new M hB1).trans hk (fun i hi h => ?_)) hpo (fun i hi h => ?_)
          · rcases h with h | h | h | h
            · exact h
            · exact h
            · omega
            · omega
          · rcases h with h | h
            · exact h
            · omega
        · rw [hps]
          have := hm1 i ((h1 i).2 (.inl h))
          refine ⟨?_, this.2⟩
          rcases this.1 with (k | k | k) | k
          · exact .inl k
          · exact .inr (by omega)
          · exact .inr (by omega)
          · exact .inr (by omega)
      rcases hj with hj | ⟨pre, hpre, hj⟩
      · rw [hJd] at hj
        obtain ⟨M4, st, pe, ⟨rfl, rfl⟩, h1, h2, hi, hl, hd⟩ := hj
        obtain ⟨e1, e2, e3, e4, e5⟩ := ends M4 _ _ (by simp) h1 h2 hl hd
        exact ⟨none, _, e1, hdone _ _ M4 (hI _ _ _ _ hi e2) e3 e4 e5 (Nat.le_refl _) (fun h => (h2 _ h).2 rfl)⟩
      · rw [hJd] at hj
        obtain ⟨M4, st, pe, ⟨rfl, hp⟩, h1, h2, ⟨c, rfl, hi⟩, hl, hd⟩ := hj
        obtain ⟨e1, e2, e3, e4, e5⟩ := ends M4 _ _ (by simp) h1 h2 hl hd
        exact ⟨some c, _, e1, hstop _ c pre _ M4 hpre (hIx _ _ _ _ _ hi e2) e3 e4 e5 (Nat.le_refl _) (fun h => (h2 _ h).2 rfl)⟩


/-- The consumer's J (whose blocks were Mc when the walk began, in W), in an iterator that had come to W2 when it began to range over another one: its blocks now, Mj, and the iterator's own, O. -/
def J3 {α : Type} (J : List α → (Nat → Prop) → World → Prop) (Mc O : Nat → Prop) (W2 : World) (xs : List α) (Mh : Nat → Prop) (A : World) : Prop :=
  ∃ Mj, J xs Mj A ∧ (∀ i, (Mj i ∨ O i) → Mh i) ∧ (∀ i, Mj i → (Mc i ∨ W2.heap.size ≤ i) ∧ i < A.heap.size) ∧ Kpt Mc W2 A
theorem J3.kept {α : Type} {J : List α → (Nat → Prop) → World → Prop} {Mc O : Nat → Prop} {W W2 : World} {xs : List α} {Mh : Nat → Prop} {A B : World}
    (hJ : ∀ pre M A B, J pre M A → Kpt (fun i => W.heap.size ≤ i ∧ ¬ M i) A B → J pre M B) (hz : W.heap.size ≤ W2.heap.size) (h : J3 J Mc O W2 xs Mh A) (hk : Kpt (fun i => W2.heap.size ≤ i ∧ ¬ Mh i) A B) : J3 J Mc O W2 xs Mh B := by
  obtain ⟨Mj, h1, h2, h3, h4⟩ := h
  refine ⟨Mj, hJ _ _ _ _ h1 (hk.mono (fun i _ h => ⟨by omega, fun k => h.2 (h2 i (.inl k))⟩)), h2, fun i hi => ⟨(h3 i hi).1, Nat.lt_of_lt_of_le (h3 i hi).2 hk.size⟩, h4.trans hk (fun i hi h => ?_)⟩
  rcases h with h | h
  · exact h
  · omega
theorem J3.ends {α : Type} {J : List α → (Nat → Prop) → World → Prop} {Mc O : Nat → Prop} {W W2 : World} {xs : List α} {Mh : Nat → Prop} {A : World} {D : Nat} {o : Obj}
    (hJ : ∀ pre M A B, J pre M A → Kpt (fun i => W.heap.size ≤ i ∧ ¬ M i) A B → J pre M B) (hMc : ∀ i, Mc i → i < W.heap.size) (hBW : Below W.heap.size W W2) (h : J3 J Mc O W2 xs Mh A) (hD : W.heap.size ≤ D) (hDM : W2.heap.size ≤ D → ¬ Mh D) :
    ∃ M', (∀ i, M' i → (Mc i ∨ W.heap.size ≤ i) ∧ i < (A.putObj D o).heap.size) ∧ Kpt Mc W (A.putObj D o) ∧ J xs M' (A.putObj D o) := by
  obtain ⟨Mj, h1, h2, h3, h4⟩ := h
  have hz := hBW.size
  have hp : Kpt (fun i => i = D) A (A.putObj D o) := Kpt.putObj A D o
  refine ⟨Mj, fun i hi => ⟨by rcases (h3 i hi).1 with h | h; exact .inl h; exact .inr (by omega), Nat.lt_of_lt_of_le (h3 i hi).2 hp.size⟩, ?_, hJ _ _ _ _ h1 (hp.mono (fun i _ e => ?_))⟩
  · exact ((Kpt.of_new Mc hBW).trans h4 (fun _ _ h => h.elim id id)).trans hp (fun i hi h => by
      rcases h with h | h
      · exact h
      · omega)
  · rw [e]
    refine ⟨hD, fun k => ?_⟩
    rcases Nat.lt_or_ge D W2.heap.size with hl | hl
    · rcases (h3 D k).1 with z | z
      · have := hMc D z; omega
      · omega
    · exact hDM hl (h2 D (.inl k))
end Go.Proofs.Ytacacigpendneaa.Seq
/- A scope through which the run goes without a jump, in a round too (the kit has it for a plain walk only). -/
namespace Go.Proofs.Ytacacigpendneaa.Op
open Go
section
variable {F : Fence} {n : Nat} {P : Program} {b : Frame} {a : Act} {k : List Item} {cs : List Frame} {w : World} {Q : Exit → Act → World → Prop}
theorem stepR_scope {c : Code} : step P (lone (b.atR a (.code (.scope c) :: k)) cs w) = .next (lone (b.atR a (.code c :: .inScope c :: k)) cs w) :=
  step_lone_go (by simp [stepG, stepG.exec, Frame.atR])
theorem stepR_inScope {c : Code} : step P (lone (b.atR a (.inScope c :: k)) cs w) = .next (lone (b.atR a k) cs w) :=
  step_lone_go (by simp [stepG, stepG.exec, Frame.atR])
theorem wpIn_scope {c : Code} (h : c.wpIn F n P (Exit.noGoto Q) a w) : (Code.scope c).wpIn F n P Q a w := by
  intro b k cs hro hb hr
  have h0 : (lone (b.atR a (.code (.scope c) :: k)) cs w).fenced P F := fenced_calm hb hr rfl
  obtain ⟨e, a₁, w₁, hq, harr⟩ := h b (.inScope c :: k) cs hro hb hr
  cases e with
  | normal => exact ⟨.normal, a₁, w₁, hq, .head h0 stepR_scope (StepsIn.trans harr (.one (fenced_calm hb hr rfl) stepR_inScope))⟩
  | exit id =>
    have hx : exitTo id (.inScope c :: k) = exitTo id k := by simp [exitTo]
    exact ⟨.exit id, a₁, w₁, hq, fun k' hk => .head h0 stepR_scope (harr.1 k' (by rw [hx]; exact hk)), fun hr' hk => let ⟨k₁, h1, h2⟩ := harr.2 hr' (by rw [hx]; exact hk); ⟨k₁, h1, .head h0 stepR_scope h2⟩⟩
  | goto l => exact hq.elim
  | ret => exact ⟨_, a₁, w₁, hq, .of_steps (.one h0 stepR_scope) harr⟩
  | panic ch => exact ⟨_, a₁, w₁, hq, .of_steps (.one h0 stepR_scope) harr⟩
  | outgrown => exact ⟨_, a₁, w₁, hq, .of_steps (.one h0 stepR_scope) harr⟩
end
end Go.Proofs.Ytacacigpendneaa.Op
/- (*Wos).All: what its iterator gives: the versions, by rising names, each in memory of its own. -/
namespace Go.Proofs.Ytacacigpendneaa.QV
open Go.RowKit Go.Proofs.YtacacigpendneaaW.PrintWords Go.Proofs.Ytacacigpendneaa.Mp Go.Proofs.Ytacacigpendneaa.Seq Go.Shelf
set_option linter.unusedVariables false
set_option linter.unusedSimpArgs false
attribute [local go_sem] Oper.semAt_some
set_option maxRecDepth 100000
/-- A version in memory of the consumer's own, at or above b0. -/
def RdV (b0 : Nat) (A : World) (N : Nat → Prop) (x : Ver) (vs : Array Value) : Prop :=
  ∃ v, vs = #[.agg #[.int .u64 x.f0.f0, .int .u32 x.f0.f1, v, .int .u64 x.f2]] ∧ kS.R tS A b0 N v x.f1 ∧ ∀ i, N i → i < A.heap.size
theorem RdV.kept {b0 : Nat} {Z : Nat → Prop} {A B : World} {N : Nat → Prop} {x : Ver} {vs : Array Value} (h : RdV b0 A N x vs) (hk : Kpt (fun i => Z i ∧ ¬ N i) A B) : RdV b0 B N x vs := by
  obtain ⟨v, rfl, hr, hN⟩ := h
  exact ⟨v, rfl, Kd.R_move hr (fun k hk' => hk.block k (hN k hk') (fun z => z.2 hk')), fun i hi => Nat.lt_of_lt_of_le (hN i hi) hk.size⟩
theorem all_any (p : Nat) (w : World) :
    Calls Try.prog 23 #[.pointer (some ⟨p, 0, none⟩)] w fun e w' => e = .returned (.func (.func 37) #[] #[.pointer (some ⟨w.heap.size, 0, none⟩)]) ∧ w' = w.alloc (.cells #[.pointer (some ⟨p, 0, none⟩)] 30) := by
  go_enter Try.func23, Try.ntmps23
  go_wp2
  go_ret
  exact ⟨rfl, rfl⟩
theorem names_eq {f : Nm → Option Value} {F : Nm → Option Ver} {w : World} {xs ys : List Nm} {L : List Ver} (hF : FIs w f F) (hL : IsTold F L) (hall : AllOf f xs) (hp : ys.Perm xs) (hr : Rising ys) : ys = L.map (·.f0) := by
  have hnd : ys.Nodup := hp.nodup_iff.2 hall.1
  have hlt : ys.Pairwise (fun a b => cmpNm a b < 0) := by
    refine (hr.and hnd).imp ?_
    rintro a b ⟨h1, h2⟩
    exact cmpNm_tot h1 (fun e => h2 e.symm)
  refine sorted_eq (r := fun a b => cmpNm a b < 0) (fun a b h1 h2 => by rw [cmpNm_neg] at h1 h2; omega) _ _ hlt (by rw [List.pairwise_map]; exact hL.1) (fun a => ?_)
  constructor
  · intro ha
    have h1 := hp.subset ha
    have hok := hall.2.1 a h1
    have h2 := (hall.2.2 a hok).2 h1
    rw [hF.some_ hok] at h2
    obtain ⟨x, hx, rfl⟩ := hL.2.2 a hok h2
    exact List.mem_map.2 ⟨x, hx, rfl⟩
  · intro ha
    obtain ⟨x, hx, rfl⟩ := List.mem_map.1 ha
    obtain ⟨hok, hFx⟩ := hL.2.1 x hx
    exact hp.symm.subset ((hall.2.2 _ hok).1 (by rw [hF.some_ hok, hFx]; rfl))
theorem all_seq (B p m n : Nat) (R : Nat → Prop) (F : Nm → Option Ver) (L : List Ver) (Z : Nat → Prop) (w : World) (h : Wo w p m n R F) (hL : IsTold F L) (hn : n * 16 ≤ 140737488355328) (hcell : w.cell? ⟨B, 0, none⟩ = some (.pointer (some ⟨p, 0, none⟩)))
    (hB : B < w.heap.size) (hZR : ∀ k, R k → ¬ Z k) :
    SeqZ Try.prog 37 #[.pointer (some ⟨B, 0, none⟩)] Z (RdV w.heap.size) L w := by
  intro l J Jx W M hW hM hJ hJx hY h0
  have hcW : W.cell? ⟨B, 0, none⟩ = some (.pointer (some ⟨p, 0, none⟩)) := (hW.cell (p := ⟨B, 0, none⟩) hB).trans hcell
  have hWo := h.below hW
  obtain ⟨f, hm, hf⟩ := hWo.map
  have hpc : W.cell? ⟨p, 0, none⟩ = some (.map (some m)) := blk_cell hWo.box 0
  refine (callsIn_wide (n := 0)).1 (callsIn_of_wp Try.func37 rfl trivial ?_ rfl)
  simp only [Try.ntmps37, List.size_toArray, List.length_cons, List.length_nil, Nat.reduceAdd, Nat.reduceSub, Array.replicate_succ, Array.replicate_zero, List.push_toArray, List.append_toArray, List.nil_append, List.cons_append]
  gi_wp2
  refine ⟨trivial, rfl, callsIn_wide.2 ((cloneMap_any m n f W hm).mono ?_)⟩
  rintro e W1 ⟨rfl, hm1, hB1⟩
  gi_wp2
  refine ⟨trivial, rfl, callsIn_wide.2 ((keys_any (some W.heap.size) W1).mono ?_)⟩
  rintro e W2 ⟨rfl, rfl⟩
  have hB2 : Below W1.heap.size W1 (W1.alloc (.cells #[.map (some W.heap.size)] tMap)) := below_alloc (Below.refl _ _) _
  have hx2 := blk_cell (blk_new W1 (.cells #[.map (some W.heap.size)] tMap)) 0
  have hsz2 : (W1.alloc (.cells #[.map (some W.heap.size)] tMap)).heap.size = W1.heap.size + 1 := World.size_alloc ..
  have hks := keys_seq W1.heap.size W.heap.size n f _ (by rw [hsz2]; omega) hx2 (hm1.below hB2)
  generalize W1.alloc (.cells #[.map (some W.heap.size)] tMap) = W2 at hB2 hx2 hsz2 hks
  gi_wp2
  refine ⟨trivial, rfl, callsIn_wide.2 ((sorted_any _ _ n _ W2 W2 (fun args w => by kernel_rfl) hks (Below.refl _ _) hn (fun xs h => h.1)).mono ?_)⟩
  rintro e W3 ⟨v, xs, ys, rfl, ⟨hxn, hE⟩, hp, hr, ho, hB3⟩
  have hys : ys = L.map (·.f0) := names_eq hf.now hL hE hp hr
  have hyl : ys.length = L.length := by rw [hys, List.length_map]
  obtain ⟨A0, c0, rfl⟩ := own_slice ho
  have hBW2 : Below W.heap.size W W2 := btr' hB1 hB2
  have hBW3 : Below W.heap.size W W3 := btr' hBW2 hB3
  have hm3 : MapIs nmK W3 W.heap.size n f := (hm1.below hB2).below hB3
  have hz1 := hB1.size
  have hz2 := hBW2.size
  have hz3 := hBW3.size
  have hmax : L.length ≤ 9223372036854775807 := by rw [← hyl, hp.length_eq]; omega
  rw [hyl] at ho ⊢
  gi_wp2
  have hMW : ∀ i, M i → i < W.heap.size := fun i h => (hM i h).2
  gi_loopw [15] (fun i wr => ∃ k : Nat, k ≤ L.length ∧ i = .int .i64 k ∧ ∃ Mk : Nat → Prop, J (L.take k) Mk wr ∧ (∀ i, Mk i → (M i ∨ W3.heap.size ≤ i) ∧ i < wr.heap.size) ∧ Kpt M W3 wr)
    (fun i _ => L.length - (intOf i).toNat)
  case atStart => exact ⟨0, Nat.zero_le _, rfl, M, by simpa using hJ _ _ _ _ h0 (Kpt.of_new _ hBW3), fun i hi => ⟨.inl hi, by have := hMW i hi; omega⟩, Kpt.refl _ _⟩
  case round =>
    obtain ⟨k, hk, rfl, Mk, hJk, hMk, hkp⟩ := hrel
    have hzr := hkp.size
    by_cases hlt : k < L.length
    · have hmem : L.getD k z29 ∈ L := getD_mem _ hlt
      have hts := take_snoc' z29 L k hlt
      have hya : ys[k]? = some (L.getD k z29).f0 := by
        rw [hys, List.getElem?_map, List.getD_eq_getElem?_getD, List.getElem?_eq_getElem hlt]; rfl
      obtain ⟨g, cap, hv, hgb, hgl⟩ := ho.form (by omega)
      injection hv with hv1 _ hv3
      subst hv1; subst hv3
      have hgz := own_base ho g rfl
      have hgM : ¬ M g := fun h => by have := hMW g h; omega
      obtain ⟨cur, hcur⟩ := own_typed ho g rfl
      have hcr := hkp.at hcur hgM
      generalize L.getD k z29 = x at *
      have hyk : ys[k]! = x.f0 := by rw [List.getElem!_eq_getElem?_getD, hya]; rfl
      have hat : ∀ (j : Nat) (u : Value), j < 2 → (nmC x.f0)[j]! = u → wr.cell? ⟨g, k * 2 + j, none⟩ = some u := fun j u hj hu => by
        have h1 := ho.cells (g := g) rfl (k * 2 + j) u (by
          rw [flat_get nmC 2 (fun _ => rfl) (by omega) ys (k * 2 + j) (by rw [hyl]; omega), show (k * 2 + j) / 2 = k by omega, show (k * 2 + j) % 2 = j by omega, hyk, hu])
        rw [add_plain] at h1
        exact (blk_cell hcr _).trans ((blk_cell hcur _).symm.trans h1)
      have hc0 : wr.cell? ⟨g, k * 2, none⟩ = some (.int .u64 x.f0.f0) := hat 0 _ (by omega) rfl
      have hc1 : wr.cell? ⟨g, k * 2 + 1, none⟩ = some (.int .u32 x.f0.f1) := hat 1 _ (by omega) rfl
      obtain ⟨hok, hFx⟩ := hL.2.1 x hmem
      have hmr : MapIs nmK wr W.heap.size n f := hm3.at (hkp.block _ (by omega) (fun h => Nat.lt_irrefl _ (hMW _ h)))
      clear hat
      have hRr : ∀ i, R i → i < W.heap.size → wr.heap[i]? = W.heap[i]? := fun i hi hl => by
        have hlw := h.rl i hi
        rw [hkp.block i (by omega) (fun h => by
          rcases (hM i h).1 with z | z
          · exact hZR i hi z
          · omega), hBW3.block i hl]
      obtain ⟨A, c, hu, hlx, hCx⟩ : ∃ A c, f x.f0 = some (.agg #[.int .u64 x.f0.f0, .int .u32 x.f0.f1, .slice A x.f1.length c, .int .u64 x.f2]) ∧ x.f1.length ≤ c ∧ kS.C wr A x.f1.length x.f1 := by
        rcases hf wr hRr x.f0 hok with ⟨e, _⟩ | ⟨u, x', hu, hx', A, c, rfl, hlx, hCx⟩
        · rw [hFx] at e; cases e
        · rw [hFx] at hx'; cases hx'; exact ⟨A, c, hu, hlx, hCx⟩
      have hrow := h.row _ _ hFx
      have hb4 : Below wr.heap.size wr (wr.alloc (.cells #[.int .u64 x.f0.f0, .int .u32 x.f0.f1] tNm)) := below_alloc (Below.refl _ _) _
      have hlk := (hmr.below hb4).look1 (tm := tMap) (e := tVer) Try.underlying74 (zeroVer _) hok
      rw [hu, nmK_val] at hlk
      have hlk' : (Instr.lookup tMap (.map (some W.heap.size)) (.agg #[.int .u64 x.f0.f0, .int .u32 x.f0.f1]) false).run Try.prog (wr.alloc (.cells #[.int .u64 x.f0.f0, .int .u32 x.f0.f1] tNm)) = .ok (.agg #[.int .u64 x.f0.f0, .int .u32 x.f0.f1, .slice A x.f1.length c, .int .u64 x.f2]) (wr.alloc (.cells #[.int .u64 x.f0.f0, .int .u32 x.f0.f1] tNm)) := hlk
      gi_wp2
      generalize wr.alloc (.cells #[.int .u64 x.f0.f0, .int .u32 x.f0.f1] tNm) = W4 at hb4 ⊢
      clear hlk hlk'
      refine ⟨trivial, rfl, callsIn_wide.2 ((own_any x A c W4 (Kd.C_below hCx hb4) hlx (by omega)).mono ?_)⟩
      rintro e W5 ⟨v5, rfl, hR5, hB5⟩
      have hz4 := hb4.size
      have hz5 := hB5.size
      have hB45 : Below wr.heap.size wr W5 := btr' hb4 hB5
      have hYk := hY (L.take k) x #[.agg #[.int .u64 x.f0.f0, .int .u32 x.f0.f1, v5, .int .u64 x.f2]] (fun i => W4.heap.size ≤ i ∧ i < W5.heap.size) W5 Mk (hJ _ _ _ _ hJk (Kpt.of_new _ hB45)) (by rw [hts]; exact List.take_prefix _ _)
        ⟨v5, rfl, Kd.R_lower (Kd.R_mono (Kd.R_bound hR5) (fun i hi => ⟨hi.2.1, hi.2.2.1⟩)) (by have := hW.size; omega), fun i hi => hi.2⟩
        (fun i hi => ⟨by rcases (hMk i hi).1 with h | h; exact (hM i h).1; exact .inr (by have := hW.size; omega), by have := (hMk i hi).2; omega⟩) (fun i hi => ⟨by omega, hi.2, fun h => by have := (hMk i h).2; omega⟩) (by omega)
      rw [hts] at hYk
      have HT := Lib.hid hts
      clear hts
      obtain ⟨fn, tmps, assign, body, hy, hR⟩ := hYk
      gi_wp2
      refine ⟨rfl, hR.mono ?_⟩
      rintro e W6 ⟨M6, hM6, hk6, hJ6⟩
      have hK6 : Kpt M W3 W6 := (hkp.trans (Kpt.of_new M hB45) (fun _ _ h => h.elim id id)).trans hk6 (fun i hi h => by
        rcases h with h | h | h
        · exact h
        · rcases (hMk i h).1 with z | z
          · exact z
          · omega
        · omega)
      have hMM : ∀ i, M6 i → (M i ∨ W3.heap.size ≤ i) ∧ i < W6.heap.size := fun i hi => by
        refine ⟨?_, (hM6 i hi).2⟩
        rcases (hM6 i hi).1 with h | h | h
        · exact (hMk i h).1
        · exact .inr (by omega)
        · exact .inr (by omega)
      rcases hJ6 with ⟨rfl, hJ6⟩ | ⟨rfl, hJ6⟩
      · gi_wp2
        go_roundw
        case rel => exact ⟨k + 1, by omega, by go_num, M6, hJ6, hMM, hK6⟩
        case measure => simp [intOf]; omega
      · gi_wp2
        refine bodyPost_ret (results_none rfl _ _ _) rfl ?_
        exact ⟨⟨_, rfl⟩, M6, fun i hi => ⟨by rcases (hMM i hi).1 with h | h; exact .inl h; exact .inr (by omega), (hMM i hi).2⟩, (Kpt.of_new M hBW3).trans hK6 (fun _ _ h => h.elim id id), .inr ⟨_, List.take_prefix _ _, hJ6⟩⟩
    · obtain rfl : k = L.length := by omega
      gi_wp2
      go_end0
      rw [List.take_length] at hJk
      exact ⟨⟨_, rfl⟩, Mk, fun i hi => ⟨by rcases (hMk i hi).1 with h | h; exact .inl h; exact .inr (by omega), (hMk i hi).2⟩, (Kpt.of_new M hBW3).trans hkp (fun _ _ h => h.elim id id), .inl hJk⟩
end Go.Proofs.Ytacacigpendneaa.QV
/- maps.DeleteFunc of a map of versions; (*Wos).Purge, Clone, and clear of its map. -/
namespace Go.Proofs.Ytacacigpendneaa.QV
open Go.RowKit Go.Proofs.YtacacigpendneaaW.PrintWords Go.Proofs.Ytacacigpendneaa.Seq Go.Proofs.Ytacacigpendneaa.Mp Go.Shelf
set_option linter.unusedVariables false
set_option linter.unusedSimpArgs false
set_option maxRecDepth 100000
/-- What stays: all that is still to come, and of the others what the function says no to. -/
def keepF (pd : Nm → Value → Bool) (f : Nm → Option Value) (todo : Nm → Bool) (a : Nm) : Option Value := if todo a = true then f a else (f a).filter (fun v => !pd a v)

set_option maxHeartbeats 4000000 in
theorem deleteFunc_any (b n : Nat) (f : Nm → Option Value) (F : Nm → Option Ver) (pd : Nm → Value → Bool) (g : Nat) (cb : Array Value) (w : World) (eg : ∀ args w, (callFunc g args).run Try.prog w = .ok (.enter g args) w) (hm : MapIs nmK w b n f) (hF : FIs w f F)
    (hdel : ∀ (W : World) (a : Nm) (x : Ver) (A : Option Addr) (c : Nat), w.grownBy W (some b) → Nok a → F a = some x → f a = some (.agg #[.int .u64 x.f0.f0, .int .u32 x.f0.f1, .slice A x.f1.length c, .int .u64 x.f2]) →
      Calls Try.prog g (#[.agg #[.int .u64 a.f0, .int .u32 a.f1], .agg #[.int .u64 x.f0.f0, .int .u32 x.f0.f1, .slice A x.f1.length c, .int .u64 x.f2]] ++ cb) W fun e w' => e = .returned (.bool (pd a (.agg #[.int .u64 x.f0.f0, .int .u32 x.f0.f1, .slice A x.f1.length c, .int .u64 x.f2]))) ∧ W.grownBy w' none) :
    Calls Try.prog 42 #[.map (some b), .func (.func g) #[] cb] w fun e w' => e = .returned (.tuple #[]) ∧ MapIs nmK w' b n (fun a => (f a).filter (fun v => !pd a v)) ∧ w.grownBy w' (some b) := by
  have HD := Lib.hid hdel
  clear hdel
  go_enter Try.func42, Try.ntmps42
  go_wp2_with (first
    | (at_range; refine wpList_range_map _ rfl _ tMap rfl tVer Try.underlying74 rfl hm ?_; intro w0 cnt0 hrg0 hc0 hg0 hs0)
    | go_in)
  go_frame
  go_loopw [8] (fun _ wr => ∃ (todo : Nm → Bool) (cnt : Nat), RangeIs nmK wr b w.heap.size n (keepF pd f todo) todo cnt ∧ w.grownBy wr (some b))
    (fun _ wr => wr.rangeLeft b w.heap.size)
  case atStart =>
    refine ⟨_, cnt0, hrg0.congr (fun a ha => ?_), hg0.but _⟩
    unfold keepF
    cases hf : f a <;> simp [hf]
  case round =>
    obtain ⟨todo, cnt, hrg, hgw⟩ := hrel
    go_wp2_with (first
      | (at_next; refine wpList_next_map _ rfl _ rfl rfl hrg ?_ ?_)
      | go_in)
    · intro _ hl0
      go_wp2
      go_end0
      refine ⟨rfl, (hrg.map).congr (fun a ha => ?_), hgw⟩
      simp [keepF, hl0 a ha]
    · intro a v w1 cnt1 hak htd hfv hrg1 hlt hg1 hs1 hen
      rw [nmK_val] at hen
      have hfa : f a = some v := by simpa [keepF, htd] using hfv
      obtain ⟨x, hFx, A, c, rfl, hlx, hCx⟩ := hF.get hak hfa
      have hgw1 := hgw.andThen hg1 (fun j hj => by cases hj; exact Or.inl (Nat.le_refl _))
      have hbl := hrg1.map.lt
      have hrl := hrg1.lt
      cases hp : pd a (.agg #[.int .u64 x.f0.f0, .int .u32 x.f0.f1, .slice A x.f1.length c, .int .u64 x.f2])
      · go_wp2_with (first
          | (go_at_fn g; refine (HD.out _ a x A c (hgw1.andThen (grown_of_below (by repeat (first | exact Below.refl _ _ | apply below_alloc)) none) (fun j hj => by cases hj)) hak hFx hfa).mono ?_; rintro e w2 ⟨he, hg2⟩; rw [hp] at he; subst he; have hg12 : w1.grownBy w2 none := World.grownBy.andThen (grown_of_below (by repeat (first | exact Below.refl _ _ | apply below_alloc)) none) hg2 (fun j hj => by cases hj))
          | go_in)
        have hrg2 := hrg1.kept hg12 (by simp) (by simp)
        go_roundw
        case rel =>
          refine ⟨_, cnt1, hrg2.congr (fun z hz => ?_), hgw1.andThen hg12 (fun j hj => by cases hj)⟩
          unfold keepF
          by_cases e : z = a
          · subst e; simp [htd, hfa, hp, Option.filter]
          · simp [e]
        case measure => rw [hrg2.left_eq, hrg.left_eq]; exact hlt
      · go_wp2_with (first
          | (go_at_fn g; refine (HD.out _ a x A c (hgw1.andThen (grown_of_below (by repeat (first | exact Below.refl _ _ | apply below_alloc)) none) (fun j hj => by cases hj)) hak hFx hfa).mono ?_; rintro e w2 ⟨he, hg2⟩; rw [hp] at he; subst he; have hg12 : w1.grownBy w2 none := World.grownBy.andThen (grown_of_below (by repeat (first | exact Below.refl _ _ | apply below_alloc)) none) hg2 (fun j hj => by cases hj); have hrg2 := hrg1.kept hg12 (by simp) (by simp); have hkb := blk_grown (blk_alloc (blk_new w1 (.cells #[.int .u64 a.f0, .int .u32 a.f1] tNm)) _) hg2 (by simp); rw [hs1] at hkb; have hk0 := blk_cell hkb 0; have hk1 := blk_cell hkb 1)
          | (at_delete; refine wpList_drop_range _ rfl _ _ tMap rfl tVer Try.underlying74 rfl hrg2 a hak rfl ?_; intro w3 cnt3 hrg3 hle hturn; go_frame)
          | go_in)
        go_roundw
        case rel =>
          refine ⟨_, cnt3, (hrg3.congr (fun z hz => ?_)), (hgw1.andThen hg12 (fun j hj => by cases hj)).andThen hturn.grown (fun j hj => by cases hj; exact Or.inr rfl)⟩
          unfold upd keepF
          by_cases e : z = a
          · subst e; simp [htd, hfa, hp, Option.filter]
          · simp [e]
        case measure => rw [hrg3.left_eq, hrg.left_eq]; omega

/-- What a purge strikes. -/
def oldB (E : Int) (v : Value) : Bool := match v with
  | .agg #[_, _, _, .int .u64 d] => d != 0 && decide (d ≤ E)
  | _ => false
theorem oldB_ver (E : Int) (x : Ver) (A : Option Addr) (n c : Nat) : oldB E (.agg #[.int .u64 x.f0.f0, .int .u32 x.f0.f1, .slice A n c, .int .u64 x.f2]) = (x.f2 != 0 && decide (x.f2 ≤ E)) := rfl
def purgeF (F : Nm → Option Ver) (E : Int) (a : Nm) : Option Ver := (F a).filter (fun x => !(x.f2 != 0 && decide (x.f2 ≤ E)))
theorem purge1_any (a : Nm) (x : Ver) (A : Option Addr) (c : Nat) (eb : Nat) (E : Int) (W : World) (hc : W.cell? ⟨eb, 0, none⟩ = some (.int .u64 E)) :
    Calls Try.prog 43 (#[.agg #[.int .u64 a.f0, .int .u32 a.f1], .agg #[.int .u64 x.f0.f0, .int .u32 x.f0.f1, .slice A x.f1.length c, .int .u64 x.f2]] ++ #[.pointer (some ⟨eb, 0, none⟩)]) W fun e w' => e = .returned (.bool (oldB E (.agg #[.int .u64 x.f0.f0, .int .u32 x.f0.f1, .slice A x.f1.length c, .int .u64 x.f2]))) ∧ W.grownBy w' none := by
  have hlt : eb < W.heap.size := World.block_lt_of_cell? W _ hc
  rw [oldB_ver]
  by_cases hd : x.f2 = 0
  · have d1 : (x.f2 != 0) = false := by rw [hd]; rfl
    have hr : (x.f2 != 0 && decide (x.f2 ≤ E)) = false := by rw [d1]; rfl
    rw [hr]
    clear hr
    go_enter Try.func43, Try.ntmps43
    go_wp2
    go_ret
    exact ⟨by simp, grown_of_below (by repeat (first | exact Below.refl _ _ | apply below_alloc)) none⟩
  · have d1 : (x.f2 != 0) = true := bne_iff_ne.2 hd
    have hr : (x.f2 != 0 && decide (x.f2 ≤ E)) = decide (x.f2 ≤ E) := by rw [d1]; rfl
    rw [hr]
    clear hr
    go_enter Try.func43, Try.ntmps43
    go_wp2
    go_ret
    exact ⟨by simp, grown_of_below (by repeat (first | exact Below.refl _ _ | apply below_alloc)) none⟩
theorem rowsAt_purge {R : Nat → Prop} {W : World} {f : Nm → Option Value} {F : Nm → Option Ver} (h : RowsAt R W f F) (E : Int) : RowsAt R W (fun a => (f a).filter (fun v => !oldB E v)) (purgeF F E) := fun W' hW a ha => by
  unfold purgeF
  rcases h W' hW a ha with ⟨e1, e2⟩ | ⟨u, x, e1, e2, hv⟩
  · exact .inl ⟨by rw [e1]; rfl, by show (f a).filter _ = none; rw [e2]; rfl⟩
  · have hv' := hv
    obtain ⟨A, c, rfl, _, _⟩ := hv
    cases hb : (x.f2 != 0 && decide (x.f2 ≤ E))
    · refine .inr ⟨_, x, ?_, ?_, hv'⟩
      · show (f a).filter _ = _; rw [e1]; simp [Option.filter, oldB_ver, hb]
      · show (F a).filter _ = _; rw [e2]; simp [Option.filter, hb]
    · refine .inl ⟨?_, ?_⟩
      · show (F a).filter _ = _; rw [e2]; simp [Option.filter, hb]
      · show (f a).filter _ = _; rw [e1]; simp [Option.filter, oldB_ver, hb]
theorem purgeF_some {F : Nm → Option Ver} {E : Int} {a : Nm} {x : Ver} (h : purgeF F E a = some x) : F a = some x ∧ (x.f2 != 0 && decide (x.f2 ≤ E)) = false := by
  unfold purgeF at h
  obtain ⟨h1, h2⟩ := Option.filter_eq_some_iff.1 h
  refine ⟨h1, ?_⟩
  cases hb : (x.f2 != 0 && decide (x.f2 ≤ E))
  · rfl
  · rw [hb] at h2; cases h2
set_option maxHeartbeats 2000000 in
theorem purge_any (w : World) (p m n : Nat) (R : Nat → Prop) (F : Nm → Option Ver) (E : Int) (h : Wo w p m n R F) :
    Calls Try.prog 28 #[.pointer (some ⟨p, 0, none⟩), .int .u64 E] w fun e w' => ∃ k1 k2 : Nat, e = .returned (.int .i64 (wrap64 ((k1 : Int) - k2))) ∧ k1 ≤ n ∧ k2 ≤ n ∧ Many F k1 ∧ Many (purgeF F E) k2 ∧ Wo w' p m n R (purgeF F E) ∧ w.grownBy w' (some m) := by
  obtain ⟨f, hm, hf⟩ := h.map
  have hB0 := below_alloc (Below.refl w.heap.size w) (.cells #[.int .u64 E] 22)
  have hx0 := blk_new w (.cells #[.int .u64 E] 22)
  have hp0 := blk_cell (blk_below h.box hB0) 0
  have hm0 := hm.below hB0
  obtain ⟨k1, hk1, hrun, hL1⟩ := hm0.len (tm := tMap) (e := tVer) Try.underlying74 3
  have hrun' : Sem.run Try.prog (Builtin.len_ #[tMap] 3 #[.map (some m)]) (w.alloc (.cells #[.int .u64 E] 22)) = Result.ok (Value.int .i64 k1) (w.alloc (.cells #[.int .u64 E] 22)) := hrun
  have hFk : ∀ {k : Nat} {G : Nm → Option Ver} {g : Nm → Option Value} {V : World}, FIs V g G → (∀ L : List Nm, L.Nodup → (∀ a ∈ L, nmK.ok a) → (∀ a, nmK.ok a → ((g a).isSome = true ↔ a ∈ L)) → k = L.length) → Many G k := fun hG hL L hn hok hF => hL L hn hok (fun a ha => by rw [hG.isSome_ a ha]; exact hF a ha)
  have hmany1 := hFk hf.now hL1
  go_enter Try.func28, Try.ntmps28
  go_wp2_with fail
  clear hrun hrun' hL1
  have hF0 := hf.now.below hB0
  generalize w.alloc (.cells #[.int .u64 E] 22) = W0 at hB0 hx0 hp0 hm0 hF0 ⊢
  refine (deleteFunc_any m n f F (fun _ v => oldB E v) 43 #[.pointer (some ⟨w.heap.size, 0, none⟩)] W0 (fun args w => by kernel_rfl) hm0 hF0 ?_).mono ?_
  · intro W a x A c hg hak hFx hfx
    exact purge1_any a x A c w.heap.size E W (blk_cell (blk_grown hx0 hg (by have := h.ml; intro e; injection e with e; omega)) 0)
  rintro e w3 ⟨rfl, hm3, hg3⟩
  have hg := grown_of hB0 hg3
  have hbox3 : w3.heap[p]? = w.heap[p]? := hg.block p h.pl (by have := h.ne; intro e; injection e with e; omega)
  have hp3 : w3.cell? ⟨p, 0, none⟩ = some (.map (some m)) := blk_cell (hbox3.trans h.box) 0
  have hf3 : RowsAt R w3 (fun a => (f a).filter (fun v => !oldB E v)) (purgeF F E) := (rowsAt_purge hf E).move hg.size (fun k hk hlt => hg.block k hlt (fun e => h.rm (by injection e with e; rw [← e]; exact hk)))
  obtain ⟨k2, hk2, hrun, hL2⟩ := hm3.len (tm := tMap) (e := tVer) Try.underlying74 3
  have hrun' : Sem.run Try.prog (Builtin.len_ #[tMap] 3 #[.map (some m)]) w3 = Result.ok (Value.int .i64 k2) w3 := hrun
  go_wp2_with fail
  go_ret
  refine ⟨k1, k2, by simp, hk1, hk2, hmany1, hFk hf3.now hL2, ⟨hbox3.trans h.box, h.ne, ⟨_, hm3, hf3⟩, fun k x hx => h.own k x (purgeF_some hx).1, fun k x hx => h.row k x (purgeF_some hx).1, h.rm, h.rp, fun k hk => Nat.lt_of_lt_of_le (h.rl k hk) hg.size⟩, hg⟩
/-- A Wos of its own, with what the first one has. -/
theorem clone_wos (w : World) (p m n : Nat) (R : Nat → Prop) (F : Nm → Option Ver) (h : Wo w p m n R F) :
    Calls Try.prog 31 #[.pointer (some ⟨p, 0, none⟩)] w fun e w' => ∃ p' m', e = .returned (.pointer (some ⟨p', 0, none⟩)) ∧ w.heap.size ≤ p' ∧ w.heap.size ≤ m' ∧ Wo w' p' m' n R F ∧ Below w.heap.size w w' := by
  obtain ⟨f, hm, hf⟩ := h.map
  have hp := blk_cell h.box 0
  go_enter Try.func31, Try.ntmps31
  go_wp2_with fail
  refine (cloneMap_any m n f w hm).mono ?_
  rintro e w1 ⟨rfl, hm1, hB1⟩
  go_wp2_with fail
  go_ret
  have hB2 : Below w1.heap.size w1 (w1.alloc (.cells #[.map (some w.heap.size)] 76)) := below_alloc (Below.refl _ _) _
  have hB := btr' hB1 hB2
  have hz := hB1.size
  have hml := hm1.lt
  exact ⟨w1.heap.size, w.heap.size, rfl, hz, Nat.le_refl _, ⟨blk_new w1 _, by omega, ⟨f, hm1.below hB2, hf.move hB.size (fun k hk hlt => hB.block k hlt)⟩, h.own, h.row, fun hk => Nat.lt_irrefl _ (h.rl _ hk), fun hk => by have := h.rl _ hk; omega, fun k hk => Nat.lt_of_lt_of_le (h.rl k hk) hB.size⟩, hB⟩
/-- clear of a map. -/
theorem clear_map {m n : Nat} {f : Nm → Option Value} {w : World} (hm : MapIs nmK w m n f) (ty : TypeId) :
    ∃ w', (Builtin.clear_ #[tMap] ty #[.map (some m)]).run Try.prog w = .ok (.tuple #[]) w' ∧ MapIs nmK w' m 0 (fun _ => none) ∧ w.grownBy w' (some m) := by
  obtain ⟨D, ⟨es, clock, hb, _, _, _⟩, hd⟩ := hm
  have hlt := blk_lt hb
  refine ⟨{ w with heap := w.heap.setIfInBounds m (.map #[] clock) }, ?_, ⟨.map [], ⟨#[], clock, ?_, ⟨by simp, Go.MapKept.stamped_empty clock, by simp⟩, Nat.le_refl _, rfl⟩, DIs.empty⟩, ?_⟩
  · simp [Builtin.clear_, run_underlying Try.underlying74, Go.MapKept.run_getObj_map hb, Go.MapKept.run_setObj_map _ hb, Result.andThen]
  · exact (Go.MapKept.heap_set hb).1
  · exact grownBy_putObj' w m (.map #[] clock)
end Go.Proofs.Ytacacigpendneaa.QV
/- hayloftlaw10.gone, slices.Collect of versions: what an iterator gives, gathered. -/
namespace Go.Proofs.Ytacacigpendneaa.Seq
open Go Go.RowKit Go.Proofs.YtacacigpendneaaW.PrintWords
set_option linter.unusedVariables false
/-- append of one element, in a round. -/
theorem S_append_in (l : Nat) {P : Program} {ops : Array Oper} {rest : List Oper} {o : Oper} {a : Act} {Q : Exit → Act → World → Prop} {α : Type} (d : Kd α) {w0 W : World} (base : Nat) (hgd : o.guard = none) (s x : Operand) (t e : TypeId) (z : Value) (bytes : Nat)
    (ho : o.op = .call { callee := .builtin .append, args := #[s, x], argTypes := #[t, t] })
    (ht : P.underlying t = some (.slice e)) (hinfo : (P.info? e).map (fun i => (i.zero, i.size, i.bytes)) = some (some z, d.sz, bytes)) (hz : z.cells.size = d.sz) (hs0 : 0 < d.sz) (hb0 : 0 < bytes)
    (v : Value) (xs : List α) (p : α) (cs : List Value) (ok okp : Nat → Prop) (hs : a.eval s = v) (hx : a.eval x = .slice (some ⟨W.heap.size, 0, none⟩) 1 1) (hp : d.M W base okp p cs) (hokp : ∀ k, okp k → ok k ∧ some k ≠ v.ownBlock) (hfresh : ∀ k, W.heap.size ≤ k → ok k)
    (HO : Kd.S d e W base (fun k => ok k ∧ ¬ okp k) v xs) (HB : Below base w0 W) (hbase : base ≤ W.heap.size) (hl : (xs.length + 1) * bytes ≤ 140737488355328)
    (h : ∀ v1 w1, Kd.S d e w1 base ok v1 (xs ++ [p]) → Below base w0 w1 → W.grownBy w1 v.ownBlock → (v1.ownBlock = v.ownBlock ∨ ∃ b, v1.ownBlock = some b ∧ W.heap.size ≤ b) → wpListIn (Rn l) 0 P ops Q rest (a.put o.dst v1) w1) :
    wpListIn (Rn l) 0 P ops Q (o :: rest) a (W.alloc (.cells cs.toArray e)) := by
  refine wpListIn_plain hgd fun K hK => ?_
  refine op_in l _ (by rw [ho]; intro c hc; cases hc) ?_
  have hw : Region.wanted o (yielded (#[] : Array Oper) a.tmps) = true := by unfold Region.wanted; rw [hgd]
  have := Kd.S_append_step (Kc := K) (ops := #[]) (Q := Q) d base hw s x t e z bytes ho ht hinfo hz hs0 hb0 v xs p cs ok okp hs hx hp hokp hfresh HO HB hbase hl (fun v1 w1 h1 h2 h3 h4 => hK _ _ (h v1 w1 h1 h2 h3 h4))
  rwa [if_pos hw] at this
end Go.Proofs.Ytacacigpendneaa.Seq
namespace Go.Proofs.Ytacacigpendneaa.QV
open Go.RowKit Go.Proofs.YtacacigpendneaaW.PrintWords Go.Proofs.Ytacacigpendneaa.Mp Go.Proofs.Ytacacigpendneaa.Seq Go.Shelf
set_option linter.unusedVariables false
set_option linter.unusedSimpArgs false
attribute [local go_sem] Oper.semAt_some
set_option maxRecDepth 100000
theorem infoVer : (Try.prog.info? tVer).map (fun i => (i.zero, i.size, i.bytes)) = some (some (.agg #[.int .u64 0, .int .u32 0, .slice none 0 0, .int .u64 0]), 4, 48) := by kernel_rfl
theorem own_raise {w : World} {b b' e sz n : Nat} {v : Value} {cs : List Value} (h : w.ownsRow b e sz v n cs) (hb : ∀ k, v.ownBlock = some k → b' ≤ k) : w.ownsRow b' e sz v n cs := by
  obtain ⟨h1, h2⟩ := h
  refine ⟨h1, ?_⟩
  rcases h2 with h2 | ⟨g, cap, cur, rfl, hbase, h3⟩
  · exact .inl h2
  · exact .inr ⟨g, cap, cur, rfl, hb g rfl, h3⟩
theorem RS_raise {w : World} {b b' : Nat} {ok ok' : Nat → Prop} {v : Value} {x : List Val} (h : kS.R tS w b ok v x) (hb : ∀ k, ok k → b' ≤ k ∧ ok' k) : kS.R tS w b' ok' v x := by
  obtain ⟨h1, inner, h2, h3⟩ := h
  exact ⟨fun k hk => (hb k (h1 k hk)).2, inner, own_raise h2 (fun k hk => (hb k (h1 k hk)).1), h3.imp_ (fun _ _ hp => kS_KM _ _ (kS.K_of_M hp))⟩
/-- Between two rounds: what has been gathered lies in a box. -/
def GoI (B b0 : Nat) (pre : List Ver) (M : Nat → Prop) (A : World) : Prop :=
  M B ∧ ∃ v, A.heap[B]? = some (.cells #[v] 38 (0, 0)) ∧ Kd.S kVer tVer A b0 (fun k => M k ∧ k ≠ B) v pre
theorem GoI.kept {B b0 : Nat} {pre : List Ver} {M : Nat → Prop} {A A' : World} {q : Nat → Prop} (h : GoI B b0 pre M A) (hk : Kpt (fun i => q i ∧ ¬ M i) A A') : GoI B b0 pre M A' := by
  obtain ⟨h1, v, h2, h3⟩ := h
  exact ⟨h1, v, hk.at h2 (fun h => h.2 h1), Kd.S_step h3 (fun k hk' hlt => hk.block k hlt (fun h => h.2 hk'.1))⟩
set_option maxHeartbeats 2000000 in
theorem gone_any (g : Nat) (lb : Array Value) (Z : Nat → Prop) (xs : List Ver) (w0 w : World) (eg : ∀ args w, (callFunc g args).run Try.prog w = .ok (.enter g args) w)
    (hseq : SeqZ Try.prog g lb Z (RdV w0.heap.size) xs w0) (hb0 : Below w0.heap.size w0 w) (hn : xs.length * 48 ≤ 140737488355328) :
    Calls Try.prog 22 #[.func (.func g) #[] lb] w fun e w' => ∃ v, e = .returned v ∧ Kd.S kVer tVer w' w.heap.size (fun _ => True) v xs ∧ Below w.heap.size w w' := by
  refine (callsIn_wide (n := 0)).1 (callsIn_of_wp_marks Try.func22 rfl trivial ?_ rfl)
  simp only [Try.ntmps22, List.size_toArray, List.length_cons, List.length_nil, Nat.reduceAdd, Nat.reduceSub, Array.replicate_succ, Array.replicate_zero, List.push_toArray, List.append_toArray, List.nil_append, List.cons_append]
  gi_wp2
  have hz : w0.heap.size ≤ w.heap.size := hb0.size
  refine wpIn_rangeZ (gf := g) (lb := lb) ?hg eg hseq (hb0.trans (((Below.refl _ w).alloc (Nat.le_refl _) _).mono hz)) ?hps ?hRd
    (GoI w.heap.size w.heap.size) (fun _ _ _ _ => False) ?hI ?hIx
    (fun i => i = w.heap.size) ?hM ?h0 (fun x vs a₁ M A => ∃ v vb, vs = #[.agg #[.int .u64 x.f0.f0, .int .u32 x.f0.f1, v, .int .u64 x.f2]] ∧ a₁ = { tmps := #[.func (.func g) #[] lb, undef, .slice none 0 0, .pointer (some ⟨w.heap.size, 0, none⟩), .pointer (some ⟨vb, 0, none⟩), .func (.func g) #[] lb, .agg #[.int .u64 x.f0.f0, .int .u32 x.f0.f1, v, .int .u64 x.f2], undef, undef, undef, undef, undef], defers := [] } ∧ vb ≠ w.heap.size ∧ M vb ∧ A.heap[vb]? = some (.cells #[.int .u64 x.f0.f0, .int .u32 x.f0.f1, v, .int .u64 x.f2] tVer (0, 0)))
    ?hAx ?assign ?body ?done ?stop
  case hg => rfl
  case hps =>
    intro A N x vs h
    obtain ⟨v, rfl, _⟩ := h
    rfl
  case hRd =>
    intro A B N x vs h hk
    exact RdV.kept h hk
  case hI =>
    intro pre M A B h hk
    exact h.kept hk
  case hIx =>
    intro c pre M A B h hk
    exact h
  case hAx =>
    rintro x vs a₁ M A B ⟨v, vb, e1, e2, h0, h1, h2⟩ hk
    exact ⟨v, vb, e1, e2, h0, h1, hk.at h2 (fun h => h.2 h1)⟩
  case hM => intro i hi; subst hi; simp; omega
  case h0 => exact ⟨rfl, _, blk_new w _, Kd.S_nil _ _ _ _ _⟩
  case assign =>
    intro l pre x vs N A M hI hpre hrd hM hN
    obtain ⟨v, rfl, hv, hNA⟩ := hrd
    obtain ⟨A1, c1, rfl⟩ := Kd.R_slice hv
    have hBA := blk_lt hI.2.choose_spec.1
    gi_wp2
    have hk : Below A.heap.size A (A.alloc (.cells #[.int .u64 x.f0.f0, .int .u32 x.f0.f1, .slice A1 x.f1.length c1, .int .u64 x.f2] tVer)) := below_alloc (Below.refl _ _) _
    refine ⟨fun i => M i ∨ i = A.heap.size, fun i hi => ⟨by rcases hi with h | h; exact .inl h; exact .inr (by omega), by rcases hi with h | h; exact Nat.lt_of_lt_of_le (hM i h).2 hk.size; rw [h]; exact blk_lt (blk_new _ _)⟩, Kpt.of_new _ hk, ?_, _, _, rfl, rfl, by omega, .inr rfl, blk_new _ _⟩
    obtain ⟨h1, v, h2, h3⟩ := hI
    exact ⟨.inl h1, v, blk_below h2 hk, Kd.S_mono (Kd.S_below h3 hk) (fun k hk => ⟨.inl hk.1, hk.2⟩)⟩
  case stop =>
    intro D c pre W M' hpre h
    exact h.elim
  case done =>
    intro D W M' hI hk hM' hD hDw hDM
    obtain ⟨hMB, v, hbx, hS⟩ := hI
    have hc : W.cell? ⟨w.heap.size, 0, none⟩ = some v := blk_cell hbx 0
    have hB : Below w.heap.size w W := ((Below.refl _ w).alloc (Nat.le_refl _) _).trans (hk.below (by simp) (fun i _ e => by omega))
    gi_wp2
    refine ⟨by simp, .inl ⟨_, _, rfl, run_takeDeferred hD, ?_⟩⟩
    have hp : Kpt (fun i => i = D) W (W.putObj D (.deferred none)) := .putObj _ _ _
    refine ⟨_, results_tmp rfl _ _ _, v, rfl, Kd.S_mono (Kd.S_step hS (fun k hk' hlt => hp.block k hlt (fun e => hDM (by rw [← e]; exact hk'.1)))) (fun _ _ => trivial), hB.trans (hp.below hB.size (fun i _ e => by rw [e]; simp at hDw; omega))⟩
  case body =>
    intro l pre x vs N A M a₁ hI hpre hrd hax hM hN
    obtain ⟨v, vb, rfl, rfl, hvbw, hMvb, hvb⟩ := hax
    obtain ⟨hMB, vl, hbx, hS⟩ := hI
    obtain ⟨vv, hvv, hR, hNA⟩ := hrd
    obtain rfl : v = vv := by simpa using hvv
    clear hvv
    have hlen : pre.length + 1 ≤ xs.length := by have := hpre.length_le; simpa using this
    obtain ⟨A1, c1, rfl, hle, hC⟩ := Kd.R_reads hR
    have hzA : w.heap.size < A.heap.size := blk_lt hbx
    have c0 : A.cell? ⟨w.heap.size, 0, none⟩ = some vl := blk_cell hbx 0
    have f0 : A.frozen? ⟨w.heap.size, 0, none⟩ = false := blk_frozen hbx 0
    have v0 := blk_cell hvb 0
    have v1 := blk_cell hvb 1
    have v2 := blk_cell hvb 2
    have v3 := blk_cell hvb 3
    have hNM : ∀ k, N k → some k ≠ vl.ownBlock := fun k hk e => (hN k hk).2.2 ((Kd.S_R hS).1 k e.symm).1
    have hNw : ∀ k, N k → w.heap.size ≤ k := fun k hk => by have := (hN k hk).1; simp at this; omega
    gi_wp2_with (first
      | (gi_at_builtin; refine S_append_in l kVer (w0 := A) w.heap.size rfl (.tmp 7) (.tmp 9) 38 tVer _ 48 rfl Try.underlying38 infoVer rfl (by decide) (by decide) vl pre x [.int .u64 x.f0.f0, .int .u32 x.f0.f1, .slice A1 x.f1.length c1, .int .u64 x.f2]
          (fun k => (M k ∧ k ≠ w.heap.size) ∨ N k ∨ A.heap.size ≤ k) N rfl rfl (k29_mkM _ _ _ _ (RS_raise hR (fun k hk => ⟨hNw k hk, hk⟩))) (fun k hk => ⟨.inr (.inl hk), hNM k hk⟩) (fun k hk => .inr (.inr hk))
          (Kd.S_mono hS (fun k hk => ⟨.inl hk, fun h => (hN k h).2.2 hk.1⟩)) (Below.refl _ _) (by omega) (by omega) ?_)
      | gi_in)
    intro v' w1 hS1 hB1 hg1 hat1
    obtain ⟨g2, cap2, rfl, hg2b, hg2l, cells2, hcells2⟩ := Kd.S_form hS1 (by simp)
    have hbx1 := blk_grown hbx hg1 (Kd.S_away hS (fun k hk => hk.2))
    have cc : w1.cell? ⟨w.heap.size, 0, none⟩ = some vl := blk_cell hbx1 0
    have ff : w1.frozen? ⟨w.heap.size, 0, none⟩ = false := blk_frozen hbx1 0
    have hlapp : (pre ++ [x]).length = pre.length + 1 := by simp
    rw [hlapp] at hS1 ⊢
    gi_wp2
    obtain ⟨w2, hw2⟩ : ∃ w2, w1.setCell ⟨w.heap.size, 0, none⟩ (.slice (some ⟨g2, 0, none⟩) (pre.length + 1) cap2) = w2 := ⟨_, rfl⟩
    rw [hw2]
    have hk2 : Kpt (fun i => i = w.heap.size) w1 w2 := by rw [← hw2]; exact Kpt.setCell w1 ⟨w.heap.size, 0, none⟩ _
    have hbx2 : w2.heap[w.heap.size]? = some (.cells #[.slice (some ⟨g2, 0, none⟩) (pre.length + 1) cap2] 38 (0, 0)) := by rw [← hw2]; exact blk_set hbx1 0 _
    have hs1 := hg1.size
    have hs2 := hk2.size
    have hKA : Kpt M A w2 := (Kpt.grown hg1 |>.mono (fun i hi h => ((Kd.S_R hS).1 i h.symm).1)).trans hk2 (fun i hi h => by
      rcases h with h | h
      · exact h
      · rw [h]; exact hMB)
    refine ⟨fun i => (M i ∨ N i ∨ A.heap.size ≤ i) ∧ i < w2.heap.size, fun i hi => hi, hKA.mono (fun _ _ h => .inl h), ⟨.inl hMB, by omega⟩, _, hbx2, ?_⟩
    have h3 : Kd.S kVer tVer w2 w.heap.size (fun k => (M k ∧ k ≠ w.heap.size) ∨ N k ∨ A.heap.size ≤ k) (.slice (some ⟨g2, 0, none⟩) (pre.length + 1) cap2) (pre ++ [x]) := by
      rw [← hw2]
      exact Kd.S_far (p := ⟨w.heap.size, 0, none⟩) hS1 (fun k hk => by
        show k ≠ w.heap.size
        rcases hk with hk | hk | hk
        · exact hk.2
        · intro e; rw [e] at hk; exact (hN _ hk).2.2 hMB
        · omega) _
    refine Kd.S_mono (Kd.S_bound h3) (fun k hk => ⟨⟨?_, hk.2.2.1⟩, ?_⟩)
    · rcases hk.1 with h | h
      · exact .inl h.1
      · exact .inr h
    · rcases hk.1 with h | h | h
      · exact h.2
      · intro e; rw [e] at h; exact (hN _ h).2.2 hMB
      · omega
end Go.Proofs.Ytacacigpendneaa.QV
/- slices.Collect of versions: what an iterator gives, gathered. -/
namespace Go.Proofs.Ytacacigpendneaa.QV
open Go.RowKit Go.Proofs.YtacacigpendneaaW.PrintWords Go.Proofs.Ytacacigpendneaa.Mp Go.Proofs.Ytacacigpendneaa.Seq Go.Shelf
set_option linter.unusedVariables false
set_option linter.unusedSimpArgs false
attribute [local go_sem] Oper.semAt_some
set_option maxRecDepth 100000
set_option maxHeartbeats 2000000 in
theorem appendSeqV_any (g : Nat) (lb : Array Value) (Z : Nat → Prop) (xs : List Ver) (w0 w : World) (eg : ∀ args w, (callFunc g args).run Try.prog w = .ok (.enter g args) w)
    (hseq : SeqZ Try.prog g lb Z (RdV w0.heap.size) xs w0) (hb0 : Below w0.heap.size w0 w) (hn : xs.length * 48 ≤ 140737488355328) :
    Calls Try.prog 57 #[.slice none 0 0, .func (.func g) #[] lb] w fun e w' => ∃ v, e = .returned v ∧ Kd.S kVer tVer w' w.heap.size (fun _ => True) v xs ∧ Below w.heap.size w w' := by
  refine (callsIn_wide (n := 0)).1 (callsIn_of_wp_marks Try.func57 rfl trivial ?_ rfl)
  simp only [Try.ntmps57, List.size_toArray, List.length_cons, List.length_nil, Nat.reduceAdd, Nat.reduceSub, Array.replicate_succ, Array.replicate_zero, List.push_toArray, List.append_toArray, List.nil_append, List.cons_append]
  gi_wp2
  have hz : w0.heap.size ≤ w.heap.size := hb0.size
  refine wpIn_rangeZ (gf := g) (lb := lb) ?hg eg hseq (hb0.trans (((Below.refl _ w).alloc (Nat.le_refl _) _).mono hz)) ?hps ?hRd
    (GoI w.heap.size w.heap.size) (fun _ _ _ _ => False) ?hI ?hIx
    (fun i => i = w.heap.size) ?hM ?h0 (fun x vs a₁ M A => ∃ v vb, vs = #[.agg #[.int .u64 x.f0.f0, .int .u32 x.f0.f1, v, .int .u64 x.f2]] ∧ a₁ = { tmps := #[.slice none 0 0, .func (.func g) #[] lb, .pointer (some ⟨w.heap.size, 0, none⟩), undef, .slice none 0 0, .pointer (some ⟨vb, 0, none⟩), .func (.func g) #[] lb, .agg #[.int .u64 x.f0.f0, .int .u32 x.f0.f1, v, .int .u64 x.f2], undef, undef, undef, undef, undef], defers := [] } ∧ vb ≠ w.heap.size ∧ M vb ∧ A.heap[vb]? = some (.cells #[.int .u64 x.f0.f0, .int .u32 x.f0.f1, v, .int .u64 x.f2] tVer (0, 0)))
    ?hAx ?assign ?body ?done ?stop
  case hg => rfl
  case hps =>
    intro A N x vs h
    obtain ⟨v, rfl, _⟩ := h
    rfl
  case hRd =>
    intro A B N x vs h hk
    exact RdV.kept h hk
  case hI =>
    intro pre M A B h hk
    exact h.kept hk
  case hIx =>
    intro c pre M A B h hk
    exact h
  case hAx =>
    rintro x vs a₁ M A B ⟨v, vb, e1, e2, h0, h1, h2⟩ hk
    exact ⟨v, vb, e1, e2, h0, h1, hk.at h2 (fun h => h.2 h1)⟩
  case hM => intro i hi; subst hi; simp; omega
  case h0 => exact ⟨rfl, _, blk_new w _, Kd.S_nil _ _ _ _ _⟩
  case assign =>
    intro l pre x vs N A M hI hpre hrd hM hN
    obtain ⟨v, rfl, hv, hNA⟩ := hrd
    obtain ⟨A1, c1, rfl⟩ := Kd.R_slice hv
    have hBA := blk_lt hI.2.choose_spec.1
    gi_wp2
    have hk : Below A.heap.size A (A.alloc (.cells #[.int .u64 x.f0.f0, .int .u32 x.f0.f1, .slice A1 x.f1.length c1, .int .u64 x.f2] tVer)) := below_alloc (Below.refl _ _) _
    refine ⟨fun i => M i ∨ i = A.heap.size, fun i hi => ⟨by rcases hi with h | h; exact .inl h; exact .inr (by omega), by rcases hi with h | h; exact Nat.lt_of_lt_of_le (hM i h).2 hk.size; rw [h]; exact blk_lt (blk_new _ _)⟩, Kpt.of_new _ hk, ?_, _, _, rfl, rfl, by omega, .inr rfl, blk_new _ _⟩
    obtain ⟨h1, v, h2, h3⟩ := hI
    exact ⟨.inl h1, v, blk_below h2 hk, Kd.S_mono (Kd.S_below h3 hk) (fun k hk => ⟨.inl hk.1, hk.2⟩)⟩
  case stop =>
    intro D c pre W M' hpre h
    exact h.elim
  case done =>
    intro D W M' hI hk hM' hD hDw hDM
    obtain ⟨hMB, v, hbx, hS⟩ := hI
    have hc : W.cell? ⟨w.heap.size, 0, none⟩ = some v := blk_cell hbx 0
    have hB : Below w.heap.size w W := ((Below.refl _ w).alloc (Nat.le_refl _) _).trans (hk.below (by simp) (fun i _ e => by omega))
    gi_wp2
    refine ⟨by simp, .inl ⟨_, _, rfl, run_takeDeferred hD, ?_⟩⟩
    have hp : Kpt (fun i => i = D) W (W.putObj D (.deferred none)) := .putObj _ _ _
    refine ⟨_, results_tmp rfl _ _ _, v, rfl, Kd.S_mono (Kd.S_step hS (fun k hk' hlt => hp.block k hlt (fun e => hDM (by rw [← e]; exact hk'.1)))) (fun _ _ => trivial), hB.trans (hp.below hB.size (fun i _ e => by rw [e]; simp at hDw; omega))⟩
  case body =>
    intro l pre x vs N A M a₁ hI hpre hrd hax hM hN
    obtain ⟨v, vb, rfl, rfl, hvbw, hMvb, hvb⟩ := hax
    obtain ⟨hMB, vl, hbx, hS⟩ := hI
    obtain ⟨vv, hvv, hR, hNA⟩ := hrd
    obtain rfl : v = vv := by simpa using hvv
    clear hvv
    have hlen : pre.length + 1 ≤ xs.length := by have := hpre.length_le; simpa using this
    obtain ⟨A1, c1, rfl, hle, hC⟩ := Kd.R_reads hR
    have hzA : w.heap.size < A.heap.size := blk_lt hbx
    have c0 : A.cell? ⟨w.heap.size, 0, none⟩ = some vl := blk_cell hbx 0
    have f0 : A.frozen? ⟨w.heap.size, 0, none⟩ = false := blk_frozen hbx 0
    have v0 := blk_cell hvb 0
    have v1 := blk_cell hvb 1
    have v2 := blk_cell hvb 2
    have v3 := blk_cell hvb 3
    have hNM : ∀ k, N k → some k ≠ vl.ownBlock := fun k hk e => (hN k hk).2.2 ((Kd.S_R hS).1 k e.symm).1
    have hNw : ∀ k, N k → w.heap.size ≤ k := fun k hk => by have := (hN k hk).1; simp at this; omega
    gi_wp2_with (first
      | (gi_at_builtin; refine S_append_in l kVer (w0 := A) w.heap.size rfl (.tmp 8) (.tmp 10) 38 tVer _ 48 rfl Try.underlying38 infoVer rfl (by decide) (by decide) vl pre x [.int .u64 x.f0.f0, .int .u32 x.f0.f1, .slice A1 x.f1.length c1, .int .u64 x.f2]
          (fun k => (M k ∧ k ≠ w.heap.size) ∨ N k ∨ A.heap.size ≤ k) N rfl rfl (k29_mkM _ _ _ _ (RS_raise hR (fun k hk => ⟨hNw k hk, hk⟩))) (fun k hk => ⟨.inr (.inl hk), hNM k hk⟩) (fun k hk => .inr (.inr hk))
          (Kd.S_mono hS (fun k hk => ⟨.inl hk, fun h => (hN k h).2.2 hk.1⟩)) (Below.refl _ _) (by omega) (by omega) ?_)
      | gi_in)
    intro v' w1 hS1 hB1 hg1 hat1
    obtain ⟨g2, cap2, rfl, hg2b, hg2l, cells2, hcells2⟩ := Kd.S_form hS1 (by simp)
    have hbx1 := blk_grown hbx hg1 (Kd.S_away hS (fun k hk => hk.2))
    have cc : w1.cell? ⟨w.heap.size, 0, none⟩ = some vl := blk_cell hbx1 0
    have ff : w1.frozen? ⟨w.heap.size, 0, none⟩ = false := blk_frozen hbx1 0
    have hlapp : (pre ++ [x]).length = pre.length + 1 := by simp
    rw [hlapp] at hS1 ⊢
    gi_wp2
    obtain ⟨w2, hw2⟩ : ∃ w2, w1.setCell ⟨w.heap.size, 0, none⟩ (.slice (some ⟨g2, 0, none⟩) (pre.length + 1) cap2) = w2 := ⟨_, rfl⟩
    rw [hw2]
    have hk2 : Kpt (fun i => i = w.heap.size) w1 w2 := by rw [← hw2]; exact Kpt.setCell w1 ⟨w.heap.size, 0, none⟩ _
    have hbx2 : w2.heap[w.heap.size]? = some (.cells #[.slice (some ⟨g2, 0, none⟩) (pre.length + 1) cap2] 38 (0, 0)) := by rw [← hw2]; exact blk_set hbx1 0 _
    have hs1 := hg1.size
    have hs2 := hk2.size
    have hKA : Kpt M A w2 := (Kpt.grown hg1 |>.mono (fun i hi h => ((Kd.S_R hS).1 i h.symm).1)).trans hk2 (fun i hi h => by
      rcases h with h | h
      · exact h
      · rw [h]; exact hMB)
    refine ⟨fun i => (M i ∨ N i ∨ A.heap.size ≤ i) ∧ i < w2.heap.size, fun i hi => hi, hKA.mono (fun _ _ h => .inl h), ⟨.inl hMB, by omega⟩, _, hbx2, ?_⟩
    have h3 : Kd.S kVer tVer w2 w.heap.size (fun k => (M k ∧ k ≠ w.heap.size) ∨ N k ∨ A.heap.size ≤ k) (.slice (some ⟨g2, 0, none⟩) (pre.length + 1) cap2) (pre ++ [x]) := by
      rw [← hw2]
      exact Kd.S_far (p := ⟨w.heap.size, 0, none⟩) hS1 (fun k hk => by
        show k ≠ w.heap.size
        rcases hk with hk | hk | hk
        · exact hk.2
        · intro e; rw [e] at hk; exact (hN _ hk).2.2 hMB
        · omega) _
    refine Kd.S_mono (Kd.S_bound h3) (fun k hk => ⟨⟨?_, hk.2.2.1⟩, ?_⟩)
    · rcases hk.1 with h | h
      · exact .inl h.1
      · exact .inr h
    · rcases hk.1 with h | h | h
      · exact h.2
      · intro e; rw [e] at h; exact (hN _ h).2.2 hMB
      · omega
theorem collectV_any (g : Nat) (lb : Array Value) (Z : Nat → Prop) (xs : List Ver) (w0 w : World) (eg : ∀ args w, (callFunc g args).run Try.prog w = .ok (.enter g args) w)
    (hseq : SeqZ Try.prog g lb Z (RdV w0.heap.size) xs w0) (hb0 : Below w0.heap.size w0 w) (hn : xs.length * 48 ≤ 140737488355328) :
    Calls Try.prog 44 #[.func (.func g) #[] lb] w fun e w' => ∃ v, e = .returned v ∧ Kd.S kVer tVer w' w.heap.size (fun _ => True) v xs ∧ Below w.heap.size w w' := by
  go_enter Try.func44, Try.ntmps44
  go_wp2_with (go_at_call 57; refine (appendSeqV_any g lb Z xs w0 _ eg hseq hb0 hn).mono ?_; rintro e w1 ⟨v, rfl, ho, hB⟩)
  go_ret
  exact ⟨v, rfl, ho, hB⟩
end Go.Proofs.Ytacacigpendneaa.QV
/- Whether a version is seen at an epoch. -/
namespace Go.Proofs.Ytacacigpendneaa.QV
open Go.RowKit Go.Proofs.YtacacigpendneaaW.PrintWords Go.Proofs.Ytacacigpendneaa.Mp Go.Proofs.Ytacacigpendneaa.SeqW
set_option linter.unusedVariables false
set_option linter.unusedSimpArgs false
set_option maxRecDepth 100000
def seenB (x : Ver) (E : Int) : Bool := decide (x.f0.f0 ≤ E) && (decide (x.f2 = 0) || decide (E < x.f2))
theorem seen_f (x : Ver) (E : Int) : wos_Seen.f x.f0.f0 x.f0.f1 x.f1 x.f2 E = some (seenB x E) := by
  unfold wos_Seen.f seenB
  by_cases h1 : x.f0.f0 ≤ E <;> by_cases h2 : x.f2 = 0 <;> simp [h1, h2]
theorem refSeen_f (x : Ver) (E : Int) : hayloftref10_Seen.f x.f0.f0 x.f0.f1 x.f1 x.f2 E = some (seenB x E) := by
  unfold hayloftref10_Seen.f seenB
  by_cases h1 : x.f0.f0 ≤ E <;> by_cases h2 : x.f2 = 0 <;> simp [h1, h2] <;> omega
end Go.Proofs.Ytacacigpendneaa.QV
/- (*Wos).At: what its iterator gives: the versions that are seen at an epoch, as they are told then, by rising names, each in memory of its own. -/
namespace Go.Proofs.Ytacacigpendneaa.QV
open Go.RowKit Go.Proofs.YtacacigpendneaaW.PrintWords Go.Proofs.Ytacacigpendneaa.Mp Go.Proofs.Ytacacigpendneaa.Seq Go.Shelf Go.Proofs.Ytacacigpendneaa.Op
set_option linter.unusedVariables false
set_option linter.unusedSimpArgs false
attribute [local go_sem] Oper.semAt_some
set_option maxRecDepth 100000
theorem at_any (p : Nat) (E : Int) (w : World) :
    Calls Try.prog 24 #[.pointer (some ⟨p, 0, none⟩), .int .u64 E] w fun e w' => e = .returned (.func (.func 41) #[] #[.pointer (some ⟨w.heap.size, 0, none⟩), .pointer (some ⟨w.heap.size + 1, 0, none⟩)]) ∧ w' = (w.alloc (.cells #[.pointer (some ⟨p, 0, none⟩)] 30)).alloc (.cells #[.int .u64 E] 22) := by
  go_enter Try.func24, Try.ntmps24
  go_wp2
  go_ret
  exact ⟨by simp, rfl⟩
def atL (L : List Ver) (E : Int) : List Ver := (L.filter (fun x => seenB x E)).map (fun x => asE x E)
theorem atL_snoc (pre : List Ver) (x : Ver) (E : Int) : atL (pre ++ [x]) E = if seenB x E = true then atL pre E ++ [asE x E] else atL pre E := by
  unfold atL
  rw [List.filter_append, List.filter_cons]
  split <;> simp
theorem atL_prefix {L pre : List Ver} (h : pre <+: L) (E : Int) : atL pre E <+: atL L E := by
  obtain ⟨t, rfl⟩ := h
  unfold atL
  rw [List.filter_append, List.map_append]
  exact List.prefix_append _ _
set_option maxHeartbeats 400000 in
theorem at_seq (b1 b2 p m n : Nat) (R : Nat → Prop) (F : Nm → Option Ver) (L : List Ver) (E : Int) (Z : Nat → Prop) (w : World) (h : Wo w p m n R F) (hL : IsTold F L) (hn : n * 16 ≤ 140737488355328) (h1 : w.cell? ⟨b1, 0, none⟩ = some (.pointer (some ⟨p, 0, none⟩))) (h2 : w.cell? ⟨b2, 0, none⟩ = some (.int .u64 E))
    (hb1 : b1 < w.heap.size) (hb2 : b2 < w.heap.size) (hZ2 : ¬ Z b2) (hZR : ∀ k, R k → ¬ Z k) :
    SeqZ Try.prog 41 #[.pointer (some ⟨b1, 0, none⟩), .pointer (some ⟨b2, 0, none⟩)] Z (RdV w.heap.size) (atL L E) w := by
  intro l J Jx W Mc hW hMc hJ hJx hY h0
  have hzw : w.heap.size ≤ W.heap.size := hW.size
  refine (callsIn_wide (n := 0)).1 (callsIn_of_wp_marks Try.func41 rfl trivial ?_ rfl)
  simp only [Try.ntmps41, List.size_toArray, List.length_cons, List.length_nil, Nat.reduceAdd, Nat.reduceSub, Array.replicate_succ, Array.replicate_zero, List.push_toArray, List.append_toArray, List.nil_append, List.cons_append]
  gi_wp2
  obtain ⟨W0, hW0⟩ : ∃ W0, W.alloc (.cells #[.func (.yield l) #[] #[]] 77) = W0 := ⟨_, rfl⟩
  have hbW0 : Below W.heap.size W W0 := by rw [← hW0]; exact below_alloc (Below.refl _ _) _
  have hszW0 : W0.heap.size = W.heap.size + 1 := by rw [← hW0]; simp
  have hx3 : W0.heap[W.heap.size]? = some (.cells #[.func (.yield l) #[] #[]] 77 (0, 0)) := by rw [← hW0]; exact blk_new _ _
  rw [hW0]
  clear hW0
  refine wpIn_scope ?_
  have d1 : W0.cell? ⟨b1, 0, none⟩ = some (.pointer (some ⟨p, 0, none⟩)) := pw_cell_below (hW.trans (hbW0.mono hzw)) h1
  gi_wp2
  refine wpIn_label ?_
  gi_wp2
  refine ⟨trivial, rfl, callsIn_wide.2 ((all_any p W0).mono ?_)⟩
  rintro e W1 ⟨rfl, rfl⟩
  have hbB : Below W0.heap.size W0 (W0.alloc (.cells #[.pointer (some ⟨p, 0, none⟩)] 30)) := below_alloc (Below.refl _ _) _
  have hxB := blk_new W0 (.cells #[.pointer (some ⟨p, 0, none⟩)] 30)
  have hszB : (W0.alloc (.cells #[.pointer (some ⟨p, 0, none⟩)] 30)).heap.size = W0.heap.size + 1 := World.size_alloc ..
  generalize W0.alloc (.cells #[.pointer (some ⟨p, 0, none⟩)] 30) = W1 at hbB hxB hszB ⊢
  have hBW : Below W.heap.size W W1 := btr' hbW0 hbB
  have hBw : Below w.heap.size w W1 := btr' hW hBW
  have hx31 := blk_below hx3 hbB
  have hMcW : ∀ i, Mc i → i < W.heap.size := fun i h => (hMc i h).2
  rw [hszW0] at hxB
  have hseq := all_seq (W.heap.size + 1) p m n R F L (fun i => Z i ∨ (w.heap.size ≤ i ∧ i < W0.heap.size)) W1 (h.below hBw) hL hn (blk_cell hxB 0) (by omega) (fun k hk hz => by
    have := h.rl k hk
    rcases hz with hz | hz
    · exact hZR k hk hz
    · omega)
  gi_wp2
  refine wpIn_rangeZ (gf := 37) (lb := #[.pointer (some ⟨W.heap.size + 1, 0, none⟩)]) ?hg ?eg hseq (Below.refl _ _) ?hps ?hRd
    (fun pre Mh A => J3 J Mc (fun i => i = W.heap.size) W1 (atL pre E) Mh A) (fun c pre Mh A => c = .exit 0 ∧ ∃ y, y <+: atL L E ∧ J3 Jx Mc (fun i => i = W.heap.size) W1 y Mh A)
    ?hI ?hIx
    (fun i => Mc i ∨ i = W.heap.size) ?hM ?h0
    (fun x vs a₁ M A => ∃ v vb, vs = #[.agg #[.int .u64 x.f0.f0, .int .u32 x.f0.f1, v, .int .u64 x.f2]] ∧ a₁ = { tmps := #[.func (.yield l) #[] #[], .pointer (some ⟨b1, 0, none⟩), .pointer (some ⟨b2, 0, none⟩), .pointer (some ⟨W.heap.size, 0, none⟩), .pointer (some ⟨vb, 0, none⟩), .pointer (some ⟨p, 0, none⟩), .func (.func 37) #[] #[.pointer (some ⟨W.heap.size + 1, 0, none⟩)], .agg #[.int .u64 x.f0.f0, .int .u32 x.f0.f1, v, .int .u64 x.f2], undef, undef, undef, undef, undef, undef, undef, undef, undef, undef, undef, undef], defers := [] } ∧
      M vb ∧ A.heap[vb]? = some (.cells #[.int .u64 x.f0.f0, .int .u32 x.f0.f1, v, .int .u64 x.f2] tVer (0, 0)))
    ?hAx ?assign ?body ?done ?stop
  case hg => rfl
  case eg => exact fun args w => by kernel_rfl
  case hps =>
    intro A N x vs h
    obtain ⟨v, rfl, _⟩ := h
    rfl
  case hRd =>
    intro A B N x vs h hk
    exact RdV.kept h hk
  case hI =>
    intro pre M A B h hk
    exact J3.kept hJ hBW.size h hk
  case hIx =>
    rintro c pre M A B ⟨hc, y, hy, h⟩ hk
    exact ⟨hc, y, hy, J3.kept hJx hBW.size h hk⟩
  case hAx =>
    rintro x vs a₁ M A B ⟨v, vb, e1, e2, h1, h2⟩ hk
    exact ⟨v, vb, e1, e2, h1, hk.at h2 (fun h => h.2 h1)⟩
  case hM =>
    intro i hi
    rcases hi with hi | hi
    · have := hMc i hi
      refine ⟨.inl ?_, by omega⟩
      rcases this.1 with z | z
      · exact .inl z
      · exact .inr ⟨z, by omega⟩
    · exact ⟨.inl (.inr ⟨by omega, by omega⟩), by omega⟩
  case h0 => exact ⟨Mc, hJ _ _ _ _ h0 (Kpt.of_new _ hBW), fun i h => h, fun i hi => ⟨.inl hi, by have := hMcW i hi; omega⟩, Kpt.refl _ _⟩
  case assign =>
    intro l2 pre x vs N A M hI hpre hrd hM hN
    obtain ⟨v, rfl, hv, hNA⟩ := hrd
    obtain ⟨A1, c1, rfl⟩ := Kd.R_slice hv
    gi_wp2
    have hk : Below A.heap.size A (A.alloc (.cells #[.int .u64 x.f0.f0, .int .u32 x.f0.f1, .slice A1 x.f1.length c1, .int .u64 x.f2] tVer)) := below_alloc (Below.refl _ _) _
    refine ⟨fun i => M i ∨ i = A.heap.size, fun i hi => ⟨by rcases hi with h | h; exact .inl h; exact .inr (by omega), by rcases hi with h | h; exact Nat.lt_of_lt_of_le (hM i h).2 hk.size; rw [h]; exact blk_lt (blk_new _ _)⟩, Kpt.of_new _ hk, ?_, _, _, rfl, rfl, .inr rfl, blk_new _ _⟩
    obtain ⟨Mj, j1, j2, j3, j4⟩ := J3.kept hJ hBW.size hI (Kpt.of_new _ hk)
    exact ⟨Mj, j1, fun i h => .inl (j2 i h), j3, j4⟩
  case body =>
    intro l2 pre x vs N A M a₁ hI hpre hrd hax hM hN
    obtain ⟨v, vb, rfl, rfl, hMvb, hvb⟩ := hax
    obtain ⟨vv, hvv, hR, hNA⟩ := hrd
    obtain rfl : v = vv := by simpa using hvv
    clear hvv
    obtain ⟨A1, c1, rfl, hle, hC⟩ := Kd.R_reads hR
    obtain ⟨Mj, hj1, hj2, hj3, hj4⟩ := hI
    have hzA := hj4.size
    have hyb : A.heap[W.heap.size]? = some (.cells #[.func (.yield l) #[] #[]] 77 (0, 0)) := hj4.at hx31 (fun h => Nat.lt_irrefl _ (hMcW _ h))
    have hb2M : ∀ i, Mc i → i ≠ b2 := fun i hi e => by
      subst e
      rcases (hMc i hi).1 with z | z
      · exact hZ2 z
      · omega
    have h2b : A.heap[b2]? = w.heap[b2]? := by rw [hj4.block b2 (by have := hBw.size; omega) (fun h => hb2M _ h rfl), hBw.block b2 hb2]
    have d2 : A.cell? ⟨b2, 0, none⟩ = some (.int .u64 E) := by rw [← h2]; unfold World.cell?; rw [h2b]
    have v0 := blk_cell hvb 0
    have v1 := blk_cell hvb 1
    have v2 := blk_cell hvb 2
    have v3 := blk_cell hvb 3
    have hpf := atL_prefix hpre E
    rw [atL_snoc] at hpf
    have hsn := atL_snoc pre x E
    have hs := seen_f x E
    have hmem : x ∈ L := hpre.subset (by simp)
    have hrow := h.row _ _ (hL.2.1 x hmem).2
    cases hse : seenB x E
    · rw [hse] at hs hsn
      gi_wp2
      refine ⟨trivial, rfl, calls_in _ _ ((wos_Seen.calls _ _ A1 c1 x.f1 _ _ false _ hC hle hs).mono ?_)⟩
      rintro e W2 ⟨rfl, hb3⟩
      gi_wp2
      refine ⟨fun i => Mj i ∨ i = W.heap.size, fun i hi => ⟨.inl (hj2 i hi), Nat.lt_of_lt_of_le (hM i (hj2 i hi)).2 hb3.size⟩, Kpt.of_new _ hb3, ?_⟩
      show J3 J Mc _ W1 (atL (pre ++ [x]) E) _ W2
      rw [hsn]
      exact ⟨Mj, hJ _ _ _ _ hj1 (Kpt.of_new _ hb3), fun _ h => h, fun i hi => ⟨(hj3 i hi).1, Nat.lt_of_lt_of_le (hj3 i hi).2 hb3.size⟩, hj4.trans (Kpt.of_new Mc hb3) (fun _ _ h => h.elim id id)⟩
    · rw [hse] at hs hsn
      rw [if_pos hse] at hpf
      rw [if_pos rfl] at hsn
      gi_wp2
      refine ⟨trivial, rfl, calls_in _ _ ((wos_Seen.calls _ _ A1 c1 x.f1 _ _ true _ hC hle hs).mono ?_)⟩
      rintro e W2 ⟨rfl, hb3⟩
      gi_wp2
      have keep : ∀ V, Kpt (fun i => Mj i ∨ A.heap.size ≤ i) A V → V.cell? ⟨W.heap.size, 0, none⟩ = some (.func (.yield l) #[] #[]) ∧ V.cell? ⟨b2, 0, none⟩ = some (.int .u64 E) := fun V hV => by
        have hy2 := hV.at hyb (fun h => by
          rcases h with h | h
          · rcases (hj3 _ h).1 with z | z
            · exact Nat.lt_irrefl _ (hMcW _ z)
            · omega
          · have := blk_lt hyb; omega)
        have hx2 : V.heap[b2]? = A.heap[b2]? := hV.block b2 (by have := hBw.size; omega) (fun h => by
          rcases h with h | h
          · rcases (hj3 _ h).1 with z | z
            · exact hb2M _ z rfl
            · have := hBw.size; omega
          · have := hBw.size; omega)
        refine ⟨blk_cell hy2 0, ?_⟩
        rw [← d2]; unfold World.cell?; rw [hx2]
      have hvb2 := blk_drew (blk_below hvb hb3)
      have u0 := blk_cell hvb2 0
      have u1 := blk_cell hvb2 1
      have u2 := blk_cell hvb2 2
      have u3 := blk_cell hvb2 3
      have hz2 := hb3.size
      refine wpIn_region_R 7 (S := fun V => V.cell? ⟨W.heap.size, 0, none⟩ = some (.func (.yield l) #[] #[]) ∧ V.cell? ⟨b2, 0, none⟩ = some (.int .u64 E)) (by kernel_rfl) (keep _ (Kpt.of_below ((hb3.mono (Nat.le_refl _)).trans (below_drew (Below.refl _ _))) |>.mono (fun i _ h => .inr h))) (fun hS0 => ?_)
      refine wpAnyR_take (i := 0) (oi := ⟨some 14, _, _, _, _, _⟩) (v := ?_) (by kernel_rfl) (by kernel_rfl) rfl (by kernel_rfl) (by kernel_rfl) (by kernel_rfl) (fun _ _ _ h => h) (Or.inl ⟨by rfl, ?_⟩) (by assumption) ?_
      rotate_left
      · intro w hSw; (try dsimp only at hSw); (try go_split_ands); go_simp; (try (with_reducible rfl))
      (try simp only [Act.put, List.setIfInBounds_toArray, List.set_cons_zero, List.set_cons_succ])
      refine wpAnyR_take (i := 2) (oi := ⟨some 16, _, _, _, _, _⟩) (v := ?_) (by kernel_rfl) (by kernel_rfl) rfl (by kernel_rfl) (by kernel_rfl) (by kernel_rfl) (fun _ _ _ h => h) (Or.inl ⟨by rfl, ?_⟩) (by assumption) ?_
      rotate_left
      · intro w hSw; (try dsimp only at hSw); (try go_split_ands); go_simp; (try (with_reducible rfl))
      (try simp only [Act.put, List.setIfInBounds_toArray, List.set_cons_zero, List.set_cons_succ])
      refine wpAnyR_one (i := 1) (o := ⟨some 15, _, _, _, _, _⟩) (by kernel_rfl) (by kernel_rfl) rfl (fun K hK => ?_)
      go_simp
      refine hK.out _ _ (.inr hS0) ?_
      clear hK K
      (try simp only [Act.put, List.setIfInBounds_toArray, List.set_cons_zero, List.set_cons_succ])
      refine wpAnyR_one (i := 3) (o := ⟨some 17, _, _, _, _, _⟩) (by kernel_rfl) (by kernel_rfl) rfl (fun K hK => ?_)
      go_simp
      refine (as_any x E A1 c1 W2.drew (Kd.C_below hC (hb3.trans ((below_drew (Below.refl _ W2)).mono hb3.size))) hle (by omega)).mono ?_
      rintro e W6 ⟨v6, rfl, hR6, hb6⟩
      have hb6' : Below A.heap.size A W6 := hb3.trans (((below_drew (Below.refl _ W2)).trans hb6).mono hb3.size)
      have hz6 : W2.heap.size ≤ W6.heap.size := hb6.size
      have hzW1 := hBw.size
      have hk6 : Kpt (fun i => Mj i ∨ A.heap.size ≤ i) A W6 := Kpt.of_new _ hb6'
      (try dsimp only)
      refine hK.out _ _ (.inr (keep W6 hk6)) ?_
      clear hK K
      (try simp only [Act.put, List.setIfInBounds_toArray, List.set_cons_zero, List.set_cons_succ])
      obtain ⟨fn, tmps, assign, body, hy, hRR⟩ := hY (atL pre E) (asE x E) #[.agg #[.int .u64 x.f0.f0, .int .u32 x.f0.f1, v6, .int .u64 (asE x E).f2]] (fun i => W2.heap.size ≤ i ∧ i < W6.heap.size) W6 Mj (hJ _ _ _ _ hj1 (Kpt.of_new _ hb6')) hpf
        ⟨v6, by rw [asE_f0], by rw [asE_f1]; exact Kd.R_lower (Kd.R_mono (Kd.R_bound hR6) (fun i hi => ⟨hi.2.1, hi.2.2.1⟩)) (show w.heap.size ≤ W2.heap.size by omega), fun i hi => hi.2⟩
        (fun i hi => ⟨by rcases (hj3 i hi).1 with h | h; exact (hMc i h).1; exact .inr (by omega), Nat.lt_of_lt_of_le (hj3 i hi).2 hb6'.size⟩) (fun i hi => ⟨by omega, hi.2, fun h => by have := (hj3 i h).2; omega⟩) (by omega)
      refine wpAnyR_oneIn (i := 4) (o := ⟨some 18, _, _, _, _, _⟩) (by kernel_rfl) rfl (fun K hK => ?_)
      rw [if_pos (by rfl)]
      refine ⟨fun _ _ => trivial, ?_⟩
      go_simp
      refine ⟨rfl, round_in _ (hRR.mono ?_)⟩
      rintro e W7 ⟨M9, hM9, hk9, hJ9⟩
      have hk7 : Kpt (fun i => Mj i ∨ A.heap.size ≤ i) A W7 := hk6.trans hk9 (fun i hi h => by
        rcases h with h | h | h
        · exact h
        · exact .inl h
        · omega)
      have hM7 : ∀ i, (M9 i ∨ i = W.heap.size) → (M i ∨ N i ∨ A.heap.size ≤ i) ∧ i < W7.heap.size := fun i hi => by
        rcases hi with hi | hi
        · refine ⟨?_, (hM9 i hi).2⟩
          rcases (hM9 i hi).1 with z | z | z
          · exact .inl (hj2 i (.inl z))
          · exact .inr (.inr (by omega))
          · exact .inr (.inr (by omega))
        · exact ⟨.inl (hj2 i (.inr hi)), by have := hk7.size; omega⟩
      have hKM : Kpt (fun i => M i ∨ N i) A W7 := hk7.mono (fun i hi h => by
        rcases h with h | h
        · exact .inl (hj2 i (.inl h))
        · omega)
      have h93 : ∀ i, M9 i → (Mc i ∨ W1.heap.size ≤ i) ∧ i < W7.heap.size := fun i hi => by
        refine ⟨?_, (hM9 i hi).2⟩
        rcases (hM9 i hi).1 with z | z | z
        · exact (hj3 i z).1
        · exact .inr (by omega)
        · exact .inr (by omega)
      have h94 : Kpt Mc W1 W7 := hj4.trans hk7 (fun i hi h => by
        rcases h with h | h | h
        · exact h
        · rcases (hj3 i h).1 with z | z
          · exact z
          · omega
        · omega)
      rcases hJ9 with ⟨rfl, hJ9⟩ | ⟨rfl, hJ9⟩
      · have hS7 := keep W7 hk7
        refine hK.out _ _ (.inr hS7) ?_
        clear hK K
        (try simp only [Act.put, List.setIfInBounds_toArray, List.set_cons_zero, List.set_cons_succ])
        refine wpAnyR_take (i := 5) (oi := ⟨some 19, _, _, _, _, _⟩) (v := ?_) (by kernel_rfl) (by kernel_rfl) rfl (by kernel_rfl) (by kernel_rfl) (by kernel_rfl) (fun _ _ _ h => h) (Or.inl ⟨by rfl, ?_⟩) (by assumption) ?_
        rotate_left
        · intro w hSw; (try dsimp only at hSw); (try go_split_ands); go_simp; (try (with_reducible rfl))
        (try simp only [Act.put, List.setIfInBounds_toArray, List.set_cons_zero, List.set_cons_succ])
        refine wpAnyR_take (i := 6) (oi := ⟨some 13, _, _, _, _, _⟩) (v := ?_) (by kernel_rfl) (by kernel_rfl) rfl (by kernel_rfl) (by kernel_rfl) (by kernel_rfl) (fun _ _ _ h => h) (Or.inl ⟨by rfl, ?_⟩) (by assumption) ?_
        rotate_left
        · intro w hSw; (try dsimp only at hSw); (try go_split_ands); go_simp; (try (with_reducible rfl))
        (try simp only [Act.put, List.setIfInBounds_toArray, List.set_cons_zero, List.set_cons_succ])
        refine wpAnyR_done (by kernel_rfl) ?_ _
        gi_wp2
        refine ⟨fun i => M9 i ∨ i = W.heap.size, hM7, hKM, ?_⟩
        show J3 J Mc _ W1 (atL (pre ++ [x]) E) _ W7
        rw [hsn]
        exact ⟨M9, hJ9, fun _ h => h, h93, h94⟩
      · have hS7 := keep W7 hk7
        refine hK.out _ _ (.inr hS7) ?_
        clear hK K
        (try simp only [Act.put, List.setIfInBounds_toArray, List.set_cons_zero, List.set_cons_succ])
        refine wpAnyR_take (i := 5) (oi := ⟨some 19, _, _, _, _, _⟩) (v := ?_) (by kernel_rfl) (by kernel_rfl) rfl (by kernel_rfl) (by kernel_rfl) (by kernel_rfl) (fun _ _ _ h => h) (Or.inl ⟨by rfl, ?_⟩) (by assumption) ?_
        rotate_left
        · intro w hSw; (try dsimp only at hSw); (try go_split_ands); go_simp; (try (with_reducible rfl))
        (try simp only [Act.put, List.setIfInBounds_toArray, List.set_cons_zero, List.set_cons_succ])
        refine wpAnyR_take (i := 6) (oi := ⟨some 13, _, _, _, _, _⟩) (v := ?_) (by kernel_rfl) (by kernel_rfl) rfl (by kernel_rfl) (by kernel_rfl) (by kernel_rfl) (fun _ _ _ h => h) (Or.inl ⟨by rfl, ?_⟩) (by assumption) ?_
        rotate_left
        · intro w hSw; (try dsimp only at hSw); (try go_split_ands); go_simp; (try (with_reducible rfl))
        (try simp only [Act.put, List.setIfInBounds_toArray, List.set_cons_zero, List.set_cons_succ])
        refine wpAnyR_done (by kernel_rfl) ?_ _
        gi_wp2
        refine ⟨fun i => M9 i ∨ i = W.heap.size, hM7, hKM, rfl, _, hpf, ?_⟩
        exact ⟨M9, hJ9, fun _ h => h, h93, h94⟩
  case done =>
    intro D W3 M3 hI3 hk3 hM3 hD3 hDw3 hDM3
    gi_wp2
    simp only [Exit.noGoto]
    gi_wp2
    refine ⟨by simp, .inl ⟨_, _, rfl, run_takeDeferred hD3, ?_⟩⟩
    obtain ⟨M4, h41, h42, h43⟩ := J3.ends hJ hMcW hBW hI3 (D := D) (by have := hBW.size; omega) (fun _ => hDM3) (o := .deferred none)
    exact ⟨_, results_none rfl _ _ _, ⟨_, rfl⟩, M4, h41, h42, .inl h43⟩
  case stop =>
    intro D2 c pre W3 M3 hpre hI3 hk3 hM3 hD3 hDw3 hDM3
    obtain ⟨rfl, y, hy, hI3⟩ := hI3
    gi_wp2
    simp only [Exit.noGoto]
    gi_wp2
    refine ⟨by simp, .inl ⟨_, _, rfl, run_takeDeferred hD3, ?_⟩⟩
    obtain ⟨M4, h41, h42, h43⟩ := J3.ends hJx hMcW hBW hI3 (D := D2) (by have := hBW.size; omega) (fun _ => hDM3) (o := .deferred none)
    exact ⟨_, results_none rfl _ _ _, ⟨_, rfl⟩, M4, h41, h42, .inr ⟨y, hy, h43⟩⟩
end Go.Proofs.Ytacacigpendneaa.QV
/- (*Wos).Take: all that there is, taken away. -/
namespace Go.Proofs.Ytacacigpendneaa.QV
open Go.RowKit Go.Proofs.YtacacigpendneaaW.PrintWords Go.Proofs.Ytacacigpendneaa.Seq Go.Proofs.Ytacacigpendneaa.Mp Go.Shelf
set_option linter.unusedVariables false
set_option linter.unusedSimpArgs false
set_option maxRecDepth 100000
/-- What All gives, of a Wos that is told as L. -/
theorem all_gives (w : World) (p m n : Nat) (R : Nat → Prop) (F : Nm → Option Ver) (L : List Ver) (Z : Nat → Prop) (h : Wo w p m n R F) (hL : IsTold F L) (hn : n * 16 ≤ 140737488355328) (hZR : ∀ k, R k → ¬ Z k) :
    ∃ w1, w1 = w.alloc (.cells #[.pointer (some ⟨p, 0, none⟩)] 30) ∧ Below w.heap.size w w1 ∧ w1.heap.size = w.heap.size + 1 ∧ SeqZ Try.prog 37 #[.pointer (some ⟨w.heap.size, 0, none⟩)] Z (RdV w1.heap.size) L w1 := by
  have hB : Below w.heap.size w (w.alloc (.cells #[.pointer (some ⟨p, 0, none⟩)] 30)) := below_alloc (Below.refl _ _) _
  have hs : (w.alloc (.cells #[.pointer (some ⟨p, 0, none⟩)] 30)).heap.size = w.heap.size + 1 := World.size_alloc ..
  exact ⟨_, rfl, hB, hs, all_seq w.heap.size p m n R F L Z _ (h.below hB) hL hn (blk_cell (blk_new w _) 0) (by rw [hs]; omega) hZR⟩
/-- .. and what At gives. -/
theorem at_gives (w : World) (p m n : Nat) (R : Nat → Prop) (F : Nm → Option Ver) (L : List Ver) (E : Int) (Z : Nat → Prop) (h : Wo w p m n R F) (hL : IsTold F L) (hn : n * 16 ≤ 140737488355328) (hZR : ∀ k, R k → ¬ Z k) (hZ : ∀ k, Z k → k < w.heap.size) :
    ∃ w1, w1 = (w.alloc (.cells #[.pointer (some ⟨p, 0, none⟩)] 30)).alloc (.cells #[.int .u64 E] 22) ∧ Below w.heap.size w w1 ∧ w1.heap.size = w.heap.size + 2 ∧ SeqZ Try.prog 41 #[.pointer (some ⟨w.heap.size, 0, none⟩), .pointer (some ⟨w.heap.size + 1, 0, none⟩)] Z (RdV w1.heap.size) (atL L E) w1 := by
  have hB : Below w.heap.size w ((w.alloc (.cells #[.pointer (some ⟨p, 0, none⟩)] 30)).alloc (.cells #[.int .u64 E] 22)) := below_alloc (below_alloc (Below.refl _ _) _) _
  have hs : ((w.alloc (.cells #[.pointer (some ⟨p, 0, none⟩)] 30)).alloc (.cells #[.int .u64 E] 22)).heap.size = w.heap.size + 2 := by rw [World.size_alloc, World.size_alloc]
  have hx2 := blk_new (w.alloc (.cells #[.pointer (some ⟨p, 0, none⟩)] 30)) (.cells #[.int .u64 E] 22)
  rw [World.size_alloc] at hx2
  exact ⟨_, rfl, hB, hs, at_seq w.heap.size (w.heap.size + 1) p m n R F L E Z _ (h.below hB) hL hn (blk_cell (blk_alloc (blk_new w _) _) 0) (blk_cell hx2 0) (by rw [hs]; omega) (by rw [hs]; omega) (fun hz => by have := hZ _ hz; omega) hZR⟩
theorem take_any (w : World) (p m n : Nat) (R : Nat → Prop) (F : Nm → Option Ver) (L : List Ver) (h : Wo w p m n R F) (hL : IsTold F L) (hn : n * 16 ≤ 140737488355328) (hl : L.length * 48 ≤ 140737488355328) :
    Calls Try.prog 30 #[.pointer (some ⟨p, 0, none⟩)] w fun e w' => ∃ v, e = .returned v ∧ Kd.S kVer tVer w' w.heap.size (fun _ => True) v L ∧ Wo w' p m 0 R (fun _ => none) ∧ w.grownBy w' (some m) := by
  obtain ⟨w1, hw1, hB1, hs1, hseq⟩ := all_gives w p m n R F L (fun _ => False) h hL hn (fun _ _ h => h)
  go_enter Try.func30, Try.ntmps30
  go_wp2_with fail
  refine (all_any p w).mono ?_
  rintro e w1' ⟨rfl, rfl⟩
  rw [← hw1]
  clear hw1
  go_wp2_with fail
  refine (collectV_any _ _ _ L w1 w1 (fun args w => by kernel_rfl) hseq (Below.refl _ _) hl).mono ?_
  rintro e w2 ⟨v, rfl, hS, hB2⟩
  have hB := btr' hB1 hB2
  have h2 := h.below hB
  obtain ⟨f, hm, hf⟩ := h2.map
  have hp := blk_cell h2.box 0
  obtain ⟨w3, hrun, hm3, hg3⟩ := clear_map hm 0
  have hrun' : Sem.run Try.prog (Builtin.clear_ #[tMap] 0 #[.map (some m)]) w2 = Result.ok (.tuple #[]) w3 := hrun
  obtain ⟨A1, c1, rfl⟩ := Kd.R_slice (Kd.S_R hS)
  have hg := grown_of hB hg3
  go_wp2_with fail
  go_ret
  refine ⟨_, rfl, ?_, ?_, hg⟩
  · exact Kd.S_lower (Kd.S_mono (Kd.S_step (Kd.S_bound hS) (fun k hk hlt => hg3.block k hlt (fun e => by have := h.ml; injection e with e; have := hk.2.1; omega))) (fun _ _ => trivial)) (by omega)
  · have hbox3 : w3.heap[p]? = w2.heap[p]? := hg3.block p h2.pl (by have := h.ne; intro e; injection e with e; omega)
    exact ⟨hbox3.trans h2.box, h.ne, ⟨_, hm3, fun W' hW a ha => .inl ⟨rfl, rfl⟩⟩, (fun k x hx => (by cases hx)), (fun k x hx => (by cases hx)), h.rm, h.rp, fun k hk => Nat.lt_of_lt_of_le (h.rl k hk) hg.size⟩
end Go.Proofs.Ytacacigpendneaa.QV
/- Rows of one's own that are written over: what stays. -/
namespace Go.Proofs.Ytacacigpendneaa.QV
open Go.RowKit Go.Proofs.YtacacigpendneaaW.PrintWords Go.Proofs.Ytacacigpendneaa.Mp Go.Proofs.Ytacacigpendneaa.Seq
set_option linter.unusedVariables false
set_option linter.unusedSimpArgs false
set_option maxRecDepth 100000
/-- Block g holds a row of n values at least, that may be written. -/
def Pg (g n : Nat) (W : World) : Prop := ∃ cur, W.heap[g]? = some (.cells cur tS (0, 0)) ∧ 4 * n ≤ cur.size
theorem Pg.set {g n : Nat} {W : World} (h : Pg g n W) (y j : Nat) (u : Value) : Pg g n (W.setCell ⟨y, j, none⟩ u) := by
  obtain ⟨cur, h1, h2⟩ := h
  by_cases e : g = y
  · subst e
    exact ⟨_, blk_set h1 j u, by simpa using h2⟩
  · exact ⟨cur, (Below.heap_setCell W ⟨y, j, none⟩ u g e).trans h1, h2⟩
/-- W is W0 but for what was written into blocks of M; rows are rows still. -/
structure SpI (M : Nat → Prop) (W0 W : World) : Prop where
  os : W.os = W0.os
  tape : W.tape = W0.tape
  output : W.output = W0.output
  size : W.heap.size = W0.heap.size
  block : ∀ i, ¬ M i → W.heap[i]? = W0.heap[i]?
  row : ∀ g n, Pg g n W0 → Pg g n W
theorem SpI.refl (M : Nat → Prop) (W : World) : SpI M W W := ⟨rfl, rfl, rfl, rfl, fun _ _ => rfl, fun _ _ h => h⟩
theorem SpI.set {M : Nat → Prop} {W0 W : World} (h : SpI M W0 W) {y : Nat} (hy : M y) (j : Nat) (u : Value) : SpI M W0 (W.setCell ⟨y, j, none⟩ u) :=
  ⟨h.os, h.tape, h.output, by rw [World.size_setCell]; exact h.size, fun i hi => (Below.heap_setCell W ⟨y, j, none⟩ u i (fun e => hi (by rw [e]; exact hy))).trans (h.block i hi), fun g n hp => (h.row g n hp).set y j u⟩
theorem SpI.below {M : Nat → Prop} {W0 W : World} {b : Nat} (h : SpI M W0 W) (hM : ∀ i, M i → b ≤ i) : Below b W0 W :=
  ⟨h.os, h.tape, h.output, Nat.le_of_eq h.size.symm, fun i hi => h.block i (fun k => by have := hM i k; omega)⟩
theorem SpI.cell {M : Nat → Prop} {W0 W : World} (h : SpI M W0 W) {g j : Nat} (hg : ¬ M g) {u : Value} (hc : W0.cell? ⟨g, j, none⟩ = some u) : W.cell? ⟨g, j, none⟩ = some u := by
  rw [← hc]
  have := h.block g hg
  simp only [World.cell?, this]
/-- A version's row in a list of one's own. -/
theorem spoil_row {W : World} {base : Nat} {ok : Nat → Prop} {A : Option Addr} {c : Nat} {L : List Ver} (hS : Kd.S kVer tVer W base ok (.slice A L.length c) L) (i : Nat) (hi : i < L.length) :
    ∃ g Ax cx, A = some ⟨g, 0, none⟩ ∧ W.cell? ⟨g, i * 4 + 2, none⟩ = some (.slice Ax (L.getD i z29).f1.length cx) ∧ (L.getD i z29).f1.length ≤ 9223372036854775807 ∧
      (0 < (L.getD i z29).f1.length → ∃ gx, Ax = some ⟨gx, 0, none⟩ ∧ base ≤ gx ∧ ok gx ∧ gx ≠ g ∧ Pg gx (L.getD i z29).f1.length W) := by
  obtain ⟨g, cap, e, _⟩ := Kd.S_form hS (by omega)
  injection e with e1 e2 e3
  subst e1
  obtain ⟨cs, hcl, hM, hcc⟩ := Kd.S_get hS z29 (i : Int) (by omega) (by omega)
  rw [Int.toNat_natCast] at hM hcc
  obtain ⟨v2, rfl, hR⟩ := k29_openM hM
  have hsz : kVer.sz = 4 := rfl
  have hc2 := hcc 2 v2 rfl
  rw [hsz] at hc2
  obtain ⟨Ax, cx, rfl, hle, hC⟩ := Kd.R_reads hR
  refine ⟨g, Ax, cx, rfl, by simpa [Addr.add] using hc2, by have := hC.2.1; unfold maxLen at this; omega, fun hpos => ?_⟩
  obtain ⟨inner, hown⟩ := Kd.R_own hR
  rcases hown.2 with ⟨hv, h0⟩ | ⟨gg, cp, cur, hv, hgb, hh, h1, h2, h3, h4⟩
  · injection hv with _ hv _; omega
  · injection hv with hv1 hv2 hv3
    subst hv1
    have hok := hR.1 gg rfl
    have hsz4 : kS.sz = 4 := rfl
    exact ⟨gg, rfl, hgb, hok.1, fun e => hok.2 (by rw [e]; rfl), cur, hh, by rw [h3, hsz4]; omega⟩
/-- The rows of a list lie in blocks of M, the list itself does not. -/
def SpIn (M : Nat → Prop) (W : World) (A : Option Addr) (L : List Ver) : Prop := L = [] ∨ ∃ g, A = some ⟨g, 0, none⟩ ∧ ¬ M g ∧ ∀ i, i < L.length → ∃ Ax cx, W.cell? ⟨g, i * 4 + 2, none⟩ = some (.slice Ax (L.getD i z29).f1.length cx) ∧ (L.getD i z29).f1.length ≤ 9223372036854775807 ∧
  (0 < (L.getD i z29).f1.length → ∃ gx, Ax = some ⟨gx, 0, none⟩ ∧ M gx ∧ Pg gx (L.getD i z29).f1.length W)
theorem spIn_S {W : World} {base : Nat} {ok : Nat → Prop} {A : Option Addr} {c : Nat} {L : List Ver} (hS : Kd.S kVer tVer W base ok (.slice A L.length c) L) : SpIn (fun k => base ≤ k ∧ ok k ∧ some k ≠ (Value.slice A L.length c).ownBlock) W A L := by
  by_cases h0 : L = []
  · exact .inl h0
  · have hpos : 0 < L.length := Nat.pos_of_ne_zero (fun e => h0 (List.eq_nil_of_length_eq_zero e))
    obtain ⟨g, _, _, hA, _⟩ := spoil_row hS 0 hpos
    subst hA
    refine .inr ⟨g, rfl, fun h => h.2.2 rfl, fun i hi => ?_⟩
    obtain ⟨g', Ax, cx, e, h1, h2, h3⟩ := spoil_row hS i hi
    injection e with e
    injection e with e
    subst e
    exact ⟨Ax, cx, h1, h2, fun hp => by obtain ⟨gx, e1, e2, e3, e4, e5⟩ := h3 hp; exact ⟨gx, e1, ⟨e2, e3, fun e => e4 (by injection e)⟩, e5⟩⟩
set_option maxHeartbeats 2000000 in
theorem spoilt_any (M : Nat → Prop) (A : Option Addr) (c : Nat) (L : List Ver) (W : World) (h : SpIn M W A L) (hl : L.length ≤ 9223372036854775807) :
    Calls Try.prog 45 #[.slice A L.length c] W fun e w' => e = .returned (.tuple #[]) ∧ SpI M W w' := by
  go_enter Try.func45, Try.ntmps45
  go_wp2_with fail
  go_loopw [6] (fun i wr => ∃ k : Nat, k ≤ L.length ∧ i = .int .i64 k ∧ SpI M W wr) (fun i _ => L.length - (intOf i).toNat)
  case atStart => exact ⟨0, Nat.zero_le _, rfl, SpI.refl _ _⟩
  case round =>
    obtain ⟨k, hk, rfl, hsp⟩ := hrel
    by_cases hlt : k < L.length
    · rcases h with h | ⟨g, rfl, hgM, hrows⟩
      · rw [h] at hlt; simp at hlt
      obtain ⟨Ax, cx, q2, hxl, hrow⟩ := hrows k hlt
      have p2 := hsp.cell hgM q2
      clear hrows
      generalize (L.getD k z29).f1.length = n at q2 p2 hxl hrow
      go_wp2_with fail
      go_loopw [15] (fun i wq => ∃ j : Nat, j ≤ n ∧ i = .int .i64 j ∧ SpI M W wq) (fun i _ => n - (intOf i).toNat)
      case atStart => exact ⟨0, Nat.zero_le _, rfl, hsp⟩
      case round =>
        obtain ⟨j, hj, rfl, hsq⟩ := hrel
        by_cases hjt : j < n
        · obtain ⟨gx, rfl, hMx, hP⟩ := hrow (by omega)
          obtain ⟨cur, hcur, hcs⟩ := hsq.row gx n hP
          clear p2
          have p2 := hsq.cell hgM q2
          obtain ⟨u0, e0⟩ : ∃ u, wr.cell? ⟨gx, j * 4, none⟩ = some u := ⟨_, (blk_cell hcur _).trans (Array.getElem?_eq_getElem (by omega))⟩
          obtain ⟨u1, e1⟩ : ∃ u, wr.cell? ⟨gx, j * 4 + 1, none⟩ = some u := ⟨_, (blk_cell hcur _).trans (Array.getElem?_eq_getElem (by omega))⟩
          obtain ⟨u2, e2⟩ : ∃ u, wr.cell? ⟨gx, j * 4 + 2, none⟩ = some u := ⟨_, (blk_cell hcur _).trans (Array.getElem?_eq_getElem (by omega))⟩
          obtain ⟨u3, e3⟩ : ∃ u, wr.cell? ⟨gx, j * 4 + 3, none⟩ = some u := ⟨_, (blk_cell hcur _).trans (Array.getElem?_eq_getElem (by omega))⟩
          have f0 := blk_frozen hcur (j * 4)
          have f1 := blk_frozen hcur (j * 4 + 1)
          have f2 := blk_frozen hcur (j * 4 + 2)
          have f3 := blk_frozen hcur (j * 4 + 3)
          go_wp2_with fail
          go_roundw
          case rel => exact ⟨j + 1, by omega, by go_num, (((hsq.set hMx _ _).set hMx _ _).set hMx _ _).set hMx _ _⟩
          case measure => simp [intOf]; omega
        · obtain rfl : j = n := by omega
          go_wp2_with fail
          go_roundw
          case rel => exact ⟨k + 1, by omega, by go_num, hsq⟩
          case measure => simp [intOf]; omega
    · obtain rfl : k = L.length := by omega
      go_wp2_with fail
      go_end0
      exact ⟨rfl, hsp⟩
end Go.Proofs.Ytacacigpendneaa.QV
/- ref10.At, ref10.Erase, walked. -/
namespace Go.Proofs.Ytacacigpendneaa.QV
open Go.RowKit Go.Proofs.YtacacigpendneaaW.PrintWords Go.Proofs.Ytacacigpendneaa.Mp Go.Proofs.Ytacacigpendneaa.Seq Go.Shelf
set_option linter.unusedVariables false
set_option linter.unusedSimpArgs false
set_option maxRecDepth 100000
/-- An element of a list whose rows are shared. -/
theorem ver_get {W : World} {base n c : Nat} {ok : Nat → Prop} {A : Option Addr} {l : List Ver} (h : Kd.V kVer tVer W base ok (.slice A n c) l) (i : Int) (h0 : 0 ≤ i) (h1 : i < (n : Int)) :
    ∃ ad A2 c2, A = some ad ∧ W.cell? (ad.add (i.toNat * 4)) = some (.int .u64 (rd_T29 l i).f0.f0) ∧ W.cell? ⟨(ad.add (i.toNat * 4)).block, (ad.add (i.toNat * 4)).off + 1, none⟩ = some (.int .u32 (rd_T29 l i).f0.f1) ∧
      W.cell? ⟨(ad.add (i.toNat * 4)).block, (ad.add (i.toNat * 4)).off + 2, none⟩ = some (.slice A2 (rd_T29 l i).f1.length c2) ∧ W.cell? ⟨(ad.add (i.toNat * 4)).block, (ad.add (i.toNat * 4)).off + 3, none⟩ = some (.int .u64 (rd_T29 l i).f2) ∧
      (rd_T29 l i).f1.length ≤ c2 ∧ kS.C W A2 (rd_T29 l i).f1.length (rd_T29 l i).f1 ∧ Kd.F kS W ok A2 (rd_T29 l i).f1.length (rd_T29 l i).f1 := by
  obtain ⟨e1, _, hC⟩ := Kd.V_reads' h
  subst e1
  obtain ⟨ad, A2, c2, rfl, x0, x1, x2, x3, hl, hi⟩ := at_T29 hC i h0 h1
  obtain ⟨ce, hce, hMe, hcc⟩ := Kd.V_get h z29 i h0 h1
  obtain ⟨ua, uc, rfl, ul, ge⟩ := k29_openF hMe
  have hv := hcc 2 _ rfl
  rw [add_field _ _ 2 (by omega)] at hv
  replace hv := Option.some.inj (hv.symm.trans x2)
  injection hv with hva hvn hvc
  rw [hva] at ge
  exact ⟨ad, A2, c2, rfl, x0, x1, x2, x3, hl, hi, ge⟩
theorem atL_take (l : List Ver) (k : Nat) (h : k < l.length) (E : Int) : atL (l.take (k + 1)) E = if seenB (rd_T29 l (k : Int)) E = true then atL (l.take k) E ++ [asE (rd_T29 l (k : Int)) E] else atL (l.take k) E := by
  rw [rdVer, ← take_snoc' z29 l k h, atL_snoc]
set_option maxHeartbeats 2000000 in
theorem refAt_any (A : Option Addr) (c : Nat) (l : List Ver) (E : Int) (Ps : Nat → Prop) (w : World) (hs : Kd.V kVer tVer w w.heap.size Ps (.slice A l.length c) l) (hl : l.length < 2932031007402) :
    Calls Try.prog 29 #[.slice A l.length c, .int .u64 E] w fun e w' => ∃ v, e = .returned v ∧ Kd.N kVer tVer w' w.heap.size (fun k => Ps k ∨ w.heap.size ≤ k) v (atL l E) ∧ Below w.heap.size w w' := by
  have hsok : ∀ x : Ver, (asE x E).f1 = x.f1 := fun x => asE_f1 x E
  go_enter Try.func29, Try.ntmps29
  go_wp2
  go_loopw [5, 6] (fun v5 v6 wr => ∃ k : Nat, k ≤ l.length ∧ v6 = .int .i64 k ∧ Kd.N kVer tVer wr w.heap.size (fun k => Ps k ∨ w.heap.size ≤ k) v5 (atL (l.take k) E) ∧ Kd.V kVer tVer wr w.heap.size (fun k => (Ps k ∨ w.heap.size ≤ k) ∧ some k ≠ v5.ownBlock) (.slice A l.length c) l ∧ Below w.heap.size w wr)
    (fun _ v6 _ => l.length - (intOf v6).toNat)
  case atStart => exact ⟨0, Nat.zero_le _, rfl, by simpa [atL] using Kd.N_nil _ _ _ _ _, Kd.V_mono hs (fun k hk => ⟨.inl hk, by simp [Value.ownBlock]⟩), Below.refl _ _⟩
  case round =>
    obtain ⟨k, hk, rfl, hN, hV, hB⟩ := hrel
    obtain ⟨A5, c5, rfl⟩ := Kd.N_slice hN
    have hVr := hV
    by_cases hlt : k < l.length
    · obtain ⟨ad, A2, c2, rfl, x0, x1, x2, x3, hle, hC, hF⟩ := ver_get hV (k : Int) (by omega) (by omega)
      simp only [Int.toNat_natCast] at x0 x1 x2 x3
      have hts := atL_take l k hlt E
      have hsn := refSeen_f (rd_T29 l (k : Int)) E
      have hatl : (atL (l.take k) E).length ≤ k := by unfold atL; rw [List.length_map]; exact Nat.le_trans (List.length_filter_le _ _) (by rw [List.length_take]; omega)
      generalize rd_T29 l (k : Int) = x at *
      cases hse : seenB x E
      · rw [hse] at hsn hts
        go_wp2_with fail
        refine (hayloftref10_Seen.calls _ _ A2 c2 x.f1 _ E false _ hC hle hsn).mono ?_
        rintro e w1 ⟨rfl, hb1⟩
        go_wp2_with fail
        go_roundw
        case rel => exact ⟨k + 1, by omega, by go_num, by rw [hts]; exact Kd.N_below hN hb1, Kd.V_below hVr hb1, btr' hB hb1⟩
        case measure => simp [intOf]; omega
      · rw [hse] at hsn
        rw [if_pos hse] at hts
        go_wp2_with fail
        refine (hayloftref10_Seen.calls _ _ A2 c2 x.f1 _ E true _ hC hle hsn).mono ?_
        rintro e w1 ⟨rfl, hb1⟩
        have y0 := pw_cell_below hb1 x0
        have y1 := pw_cell_below hb1 x1
        have y2 := pw_cell_below hb1 x2
        have y3 := pw_cell_below hb1 x3
        go_wp2_with fail
        refine (refAs_any x E A2 c2 w1).mono ?_
        rintro e w2 ⟨rfl, hb2⟩
        have hb12 := btr' hb1 hb2
        have hB2 := btr' hB hb12
        have hz2 := hB2.size
        have hF2 := Kd.F_below hF hb12
        have hN2 := Kd.N_below hN hb12
        have hV2 := Kd.V_below hVr hb12
        have hq := Lib.hid hts
        clear hts
        have hFK : Kd.FK kVer w2 (fun j => (Ps j ∨ w.heap.size ≤ j) ∧ some j ≠ (Value.slice A5 (atL (l.take k) E).length c5).ownBlock) (asE x E) [.int .u64 x.f0.f0, .int .u32 x.f0.f1, .slice A2 x.f1.length c2, .int .u64 (asE x E).f2] := fun W' hW => by
          have h1 := asE_f0 x E
          have h2 := asE_f1 x E
          have h3 := hF2 W' hW
          have h4 := k29_mk W' (asE x E) (by rw [h2]; exact hle) (by rw [h2]; exact h3)
          rw [h1, h2] at h4
          exact h4
        go_wp2_with (first
          | (at_builtin; refine Kd.N_append kVer (w0 := w) w.heap.size rfl (.tmp 19) (.tmp 26) 38 tVer _ 48 rfl Try.underlying38 infoVer rfl (by decide) (by decide) (.slice A5 (atL (l.take k) E).length c5) (atL (l.take k) E) (asE x E) [.int .u64 x.f0.f0, .int .u32 x.f0.f1, .slice A2 x.f1.length c2, .int .u64 (asE x E).f2]
              (fun k => Ps k ∨ w.heap.size ≤ k) (fun j => (Ps j ∨ w.heap.size ≤ j) ∧ some j ≠ (Value.slice A5 (atL (l.take k) E).length c5).ownBlock) rfl rfl hFK (fun _ hk => hk) (fun k hk => .inr (by omega)) hN2 hB2 hz2 (by omega) ?_)
          | fail)
        intro v6 w6 hN6 hB6 hg6 hat6
        obtain ⟨A6, c6, rfl⟩ := Kd.N_slice hN6
        have hV6 := Kd.V_afterv (ok := fun k => Ps k ∨ w.heap.size ≤ k) hV2 hg6 hat6
        go_wp2_with fail
        go_roundw
        case rel =>
          refine ⟨k + 1, by omega, by go_num, ?_, hV6, hB6⟩
          rw [hq.out]; exact hN6
        case measure => simp [intOf]; omega
    · obtain rfl : k = l.length := by omega
      rw [List.take_length] at hN ⊢
      go_wp2_with fail
      go_ret
      exact ⟨_, rfl, hN, hB⟩
end Go.Proofs.Ytacacigpendneaa.QV
/- ref10.Erase, walked. -/
namespace Go.Proofs.Ytacacigpendneaa.QV
open Go.RowKit Go.Proofs.YtacacigpendneaaW.PrintWords Go.Proofs.Ytacacigpendneaa.Mp Go.Proofs.Ytacacigpendneaa.Seq Go.Shelf
set_option linter.unusedVariables false
set_option linter.unusedSimpArgs false
set_option maxRecDepth 100000
/-- What there is behind a deletion, and the answer. -/
def erR (l : List Ver) (a : Nm) (E : Int) : List Ver × Int := match firstOf l a with
  | none => (l, 102)
  | some y => if E ≤ a.f0 then (l, 101) else if y.f2 = 0 then (putR false l ⟨y.f0, y.f1, E⟩, 0) else (l, 103)
set_option maxHeartbeats 2000000 in
theorem refErase_any (A : Option Addr) (c : Nat) (l : List Ver) (a : Nm) (E : Int) (Ps : Nat → Prop) (w : World) (hs : Kd.V kVer tVer w w.heap.size Ps (.slice A l.length c) l) (hl : l.length + 2 < 2932031007402) :
    Calls Try.prog 47 #[.slice A l.length c, .agg #[.int .u64 a.f0, .int .u32 a.f1], .int .u64 E] w fun e w' => ∃ v, e = .returned (.tuple #[v, .int .i64 (erR l a E).2]) ∧ Kd.V kVer tVer w' w.heap.size (fun k => Ps k ∨ w.heap.size ≤ k) v (erR l a E).1 ∧ Below w.heap.size w w' := by
  have hB0 := below_alloc (Below.refl w.heap.size w) (.cells #[.int .u64 a.f0, .int .u32 a.f1] tNm)
  have hx0 := blk_new w (.cells #[.int .u64 a.f0, .int .u32 a.f1] tNm)
  obtain ⟨ip, hip, hm⟩ := placeg_f l (by omega) a (l.length + 1) (Nat.le_refl _)
  go_enter Try.func47, Try.ntmps47
  go_wp2_with fail
  generalize w.alloc (.cells #[.int .u64 a.f0, .int .u32 a.f1] tNm) = W0 at hB0 hx0 ⊢
  have hV0 := Kd.V_below hs hB0
  have hzw := hB0.size
  refine (hayloftref10_Place.calls _ A c l _ _ ip W0 (Kd.V_reads' hV0).2.2 (Kd.V_reads' hV0).2.1 hip).mono ?_
  rintro e w1 ⟨rfl, hb1⟩
  have hB1 := btr' hB0 hb1
  have hx1 := blk_below hx0 hb1
  have hV1 := Kd.V_below hV0 hb1
  have i0 := blk_cell hx1 0
  have i1 := blk_cell hx1 1
  have hz1 := hB1.size
  have hVn : ∀ V, Below w.heap.size w V → Kd.V kVer tVer V w.heap.size (fun k => Ps k ∨ w.heap.size ≤ k) (.slice A l.length c) l := fun V hV => Kd.V_mono (Kd.V_below hs hV) (fun k hk => .inl hk)
  cases hf : firstOf l a with
  | none =>
    rw [hf] at hm
    have he : erR l a E = (l, 102) := by unfold erR; rw [hf]
    have d1 : decide (ip < 0) = true := decide_eq_true hm
    go_wp2_with fail
    refine bodyPost_ret (v := .tuple #[.slice A l.length c, .int .i64 102]) (by simp [results, Try.results47, go_sem]; try rfl) rfl ?_
    rw [he]
    exact ⟨_, rfl, hVn _ hB1, hB1⟩
  | some y =>
    rw [hf] at hm
    obtain ⟨hp0, hpl, hrd⟩ := hm
    have d1 : decide (ip < 0) = false := decide_eq_false (by omega)
    by_cases hE : E ≤ a.f0
    · have he : erR l a E = (l, 101) := by unfold erR; rw [hf]; exact if_pos hE
      have d2 : decide (E ≤ a.f0) = true := decide_eq_true hE
      go_wp2_with fail
      refine bodyPost_ret (v := .tuple #[.slice A l.length c, .int .i64 101]) (by simp [results, Try.results47, go_sem]; try rfl) rfl ?_
      rw [he]
      exact ⟨_, rfl, hVn _ hB1, hB1⟩
    · have d2 : decide (E ≤ a.f0) = false := decide_eq_false hE
      obtain ⟨ad, A2, c2, rfl, x0, x1, x2, x3, hle, hC, hF⟩ := ver_get hV1 ip hp0 (by omega)
      rw [hrd] at x0 x1 x2 x3 hle hC hF
      by_cases hd : y.f2 = 0
      · have he : erR l a E = (putR false l ⟨y.f0, y.f1, E⟩, 0) := by unfold erR; rw [hf]; show (if E ≤ a.f0 then _ else _) = _; rw [if_neg hE, if_pos hd]
        have d3 : (y.f2 != 0) = false := by rw [hd]; rfl
        go_wp2_with fail
        have hb2 : Below w1.heap.size w1 (w1.alloc (.cells #[.int .u64 y.f0.f0, .int .u32 y.f0.f1, .slice A2 y.f1.length c2, .int .u64 E] tVer)) := below_alloc (Below.refl _ _) _
        generalize w1.alloc (.cells #[.int .u64 y.f0.f0, .int .u32 y.f0.f1, .slice A2 y.f1.length c2, .int .u64 E] tVer) = w2 at hb2 ⊢
        have hz2 := hb2.size
        refine (hayloftref10_Put.calls (2 * l.length + 1) Ps (some ad) c l _ _ Ps A2 c2 y.f1 E (putR false l ⟨y.f0, y.f1, E⟩) w2 (Kd.V_below hV1 hb2) (Kd.V_mk hle (Kd.F_below hF hb2)) (put_f l hl ⟨y.f0, y.f1, E⟩ _ (Nat.le_refl _))).mono ?_
        rintro e w3 ⟨v3, rfl, hN3, hb3⟩
        obtain ⟨A3, c3, rfl⟩ := Kd.N_slice hN3
        go_wp2_with fail
        refine bodyPost_ret (v := .tuple #[.slice A3 (putR false l ⟨y.f0, y.f1, E⟩).length c3, .int .i64 0]) (by simp [results, Try.results47, go_sem]; try rfl) rfl ?_
        rw [he]
        exact ⟨_, rfl, Kd.V_mono (Kd.N_V hN3) (fun k hk => by rcases hk with (hk | hk) | hk; exact .inl hk; exact .inl hk; exact .inr (by omega)), btr' hB1 (btr' hb2 hb3)⟩
      · have he : erR l a E = (l, 103) := by unfold erR; rw [hf]; show (if E ≤ a.f0 then _ else _) = _; rw [if_neg hE, if_neg hd]
        have d3 : (y.f2 != 0) = true := bne_iff_ne.2 hd
        go_wp2_with fail
        refine bodyPost_ret (v := .tuple #[.slice (some ad) l.length c, .int .i64 103]) (by simp [results, Try.results47, go_sem]; try rfl) rfl ?_
        rw [he]
        exact ⟨_, rfl, hVn _ hB1, hB1⟩
end Go.Proofs.Ytacacigpendneaa.QV
/- The rows in memory, and the list by which the document answers for them: what holds between two calls of a script. -/
namespace Go.Proofs.Ytacacigpendneaa.QV
open Go.RowKit Go.Proofs.YtacacigpendneaaW.PrintWords Go.Proofs.Ytacacigpendneaa.Mp Go.Proofs.Ytacacigpendneaa.Seq Go.Shelf
set_option linter.unusedVariables false
set_option linter.unusedSimpArgs false
set_option maxRecDepth 100000
/-- Block p is a Wos (its map: m) that is told as r; r's own list is rv, whose blocks are P. -/
structure St (W : World) (p m : Nat) (R : Nat → Prop) (F : Nm → Option Ver) (P : Nat → Prop) (rv : Value) (r : List Ver) : Prop where
  wo : Wo W p m r.length R F
  told : IsTold F r
  ref : Kd.V kVer tVer W 0 P rv r
  pl : ∀ k, P k → k < W.heap.size
  pm : ¬ P m
  pp : ¬ P p
  od : ∀ x ∈ r, x.f2 = 0 ∨ x.f0.f0 < x.f2
theorem wo_fit {W : World} {p m n : Nat} {R : Nat → Prop} {F : Nm → Option Ver} {r : List Ver} (h : Wo W p m n R F) (hr : IsTold F r) : Wo W p m r.length R F := by
  obtain ⟨f, h1, h2⟩ := h.map
  refine ⟨h.box, h.ne, ⟨f, ?_, h2⟩, h.own, h.row, h.rm, h.rp, h.rl⟩
  have := h1.bound (r.map (·.f0)) (fun a ha hne => by
    have h3 : (F a).isSome = true := by
      rw [← h2.now.some_ ha]
      cases hf : f a with
      | none => exact absurd hf hne
      | some _ => rfl
    obtain ⟨x, hx, rfl⟩ := hr.2.2 a ha h3
    exact List.mem_map.2 ⟨x, hx, rfl⟩)
  rwa [List.length_map] at this
theorem St.below {W W' : World} {p m : Nat} {R : Nat → Prop} {F : Nm → Option Ver} {P : Nat → Prop} {rv : Value} {r : List Ver} (h : St W p m R F P rv r) (hb : Below W.heap.size W W') : St W' p m R F P rv r :=
  ⟨h.wo.below hb, h.told, Kd.V_step h.ref (fun k hk hlt => hb.block k hlt), fun k hk => Nat.lt_of_lt_of_le (h.pl k hk) hb.size, h.pm, h.pp, h.od⟩
theorem St.row {W : World} {p m : Nat} {R : Nat → Prop} {F : Nm → Option Ver} {P : Nat → Prop} {rv : Value} {r : List Ver} (h : St W p m R F P rv r) : ∀ x ∈ r, x.f1.length * 40 ≤ 140737488351232 := fun x hx => h.wo.row x.f0 x (h.told.at_ hx)
/-- Of the other Wos, whose map this is not. -/
theorem St.kept {W W' : World} {p m m2 : Nat} {R : Nat → Prop} {F : Nm → Option Ver} {P : Nat → Prop} {rv : Value} {r : List Ver} (h : St W p m R F P rv r) (hg : W.grownBy W' (some m2)) (h1 : m2 ≠ p) (h2 : m2 ≠ m) (h3 : ¬ R m2) (h4 : ¬ P m2) : St W' p m R F P rv r :=
  ⟨h.wo.keep hg.size (hg.block p h.wo.pl (by intro e; injection e with e; exact h1 e.symm)) (hg.block m h.wo.ml (by intro e; injection e with e; exact h2 e.symm)) (fun k hk => hg.block k (h.wo.rl k hk) (by intro e; injection e with e; exact h3 (e ▸ hk))),
    h.told, Kd.V_step h.ref (fun k hk hlt => hg.block k hlt (by intro e; injection e with e; exact h4 (e ▸ hk))), fun k hk => Nat.lt_of_lt_of_le (h.pl k hk) hg.size, h.pm, h.pp, h.od⟩
/-- What a step leaves behind. -/
def Stepped (W : World) (p m : Nat) (R P P0 : Nat → Prop) (N : Nat) (e : Ending) (W' : World) : Prop := ∃ p' m' R' F' P' rv' r', e = .returned (.tuple #[.pointer (some ⟨p', 0, none⟩), rv', .bool true]) ∧ St W' p' m' R' F' P' rv' r' ∧ W.grownBy W' (some m) ∧
  ((p' = p ∧ m' = m) ∨ (W.heap.size ≤ p' ∧ W.heap.size ≤ m')) ∧ (∀ k, R' k → R k ∨ W.heap.size ≤ k) ∧ (∀ k, P' k → P k ∨ P0 k ∨ W.heap.size ≤ k) ∧ r'.length ≤ N + 1
theorem many_told {F : Nm → Option Ver} {r : List Ver} (h : IsTold F r) {k : Nat} (hk : Many F k) : k = r.length := by
  have := hk (r.map (·.f0)) (List.pairwise_map.2 (h.1.imp (fun {a b} hab e => by rw [e, cmpNm_neg] at hab; omega))) (fun a ha => by obtain ⟨x, hx, rfl⟩ := List.mem_map.1 ha; exact (h.2.1 x hx).1)
    (fun a ha => ⟨fun hs => by obtain ⟨x, hx, e⟩ := h.2.2 a ha hs; exact List.mem_map.2 ⟨x, hx, e⟩, fun hm => by obtain ⟨x, hx, rfl⟩ := List.mem_map.1 hm; rw [(h.2.1 x hx).2]; rfl⟩)
  rwa [List.length_map] at this
theorem below_grown {W W' : World} (h : Below W.heap.size W W') (m : Nat) : W.grownBy W' (some m) := grown_of_below h _
/-- Nothing but new memory. -/
theorem stepped_same {W W' : World} {p m : Nat} {R : Nat → Prop} {F : Nm → Option Ver} {P P0 : Nat → Prop} {rv : Value} {r : List Ver} (h : St W p m R F P rv r) (hb : Below W.heap.size W W') {e : Ending} (he : e = .returned (.tuple #[.pointer (some ⟨p, 0, none⟩), rv, .bool true])) : Stepped W p m R P P0 r.length e W' :=
  ⟨p, m, R, F, P, rv, r, he, h.below hb, below_grown hb m, .inl ⟨rfl, rfl⟩, fun k hk => .inl hk, fun k hk => .inl hk, by omega⟩
end Go.Proofs.Ytacacigpendneaa.QV
/- hayloftlaw10.step: what there is at an epoch. -/
namespace Go.Proofs.Ytacacigpendneaa.QV
open Go.RowKit Go.Proofs.YtacacigpendneaaW.PrintWords Go.Proofs.Ytacacigpendneaa.Mp Go.Proofs.Ytacacigpendneaa.Seq Go.Shelf
set_option linter.unusedVariables false
set_option linter.unusedSimpArgs false
set_option maxRecDepth 100000
theorem atL_row {l : List Ver} {E : Int} {b : Nat} (h : ∀ x ∈ l, x.f1.length ≤ b) : ∀ x ∈ atL l E, x.f1.length ≤ b := fun x hx => by
  unfold atL at hx
  obtain ⟨y, hy, rfl⟩ := List.mem_map.1 hx
  rw [asE_f1]
  exact h y (List.mem_filter.1 hy).1
theorem atL_len (l : List Ver) (E : Int) : (atL l E).length ≤ l.length := by
  unfold atL
  rw [List.length_map]
  exact List.length_filter_le _ _
/-- SameAll of two lists that are one. -/
theorem same_two (L : List Ver) (hL : L.length < 9223372036854775807) (hr : ∀ x ∈ L, x.f1.length < 9223372036854775807) (A B : Option Addr) (c d : Nat) (w : World) (h1 : kVer.C w A L.length L) (h2 : L.length ≤ c) (h3 : kVer.C w B L.length L) (h4 : L.length ≤ d) :
    Calls Try.prog 21 #[.slice A L.length c, .slice B L.length d] w fun e w' => e = .returned (.bool true) ∧ Below w.heap.size w w' := by
  obtain ⟨K, hK⟩ := sameAll_f L hL hr
  exact hayloftref10_SameAll.calls K A c L B d L true w h1 h2 h3 h4 (hK K (Nat.le_refl _))
theorem grown_below {W W1 W2 : World} {m : Nat} (h : W.grownBy W1 (some m)) (hb : Below W1.heap.size W1 W2) : W.grownBy W2 (some m) := h.andThen (grown_of_below hb none) (fun j hj => by cases hj)
set_option maxHeartbeats 2000000 in
theorem step3 (x : Ver) (a : Nm) (E : Int) (A2 : Option Addr) (c2 : Nat) (W : World) (p m : Nat) (R : Nat → Prop) (F : Nm → Option Ver) (P P0 : Nat → Prop) (A : Option Addr) (c : Nat) (r : List Ver) (h : St W p m R F P (.slice A r.length c) r) (hn : r.length + 2 < 2932031007402) :
    Calls Try.prog 32 #[.pointer (some ⟨p, 0, none⟩), .slice A r.length c, .agg #[.int .i64 3, .int .u64 x.f0.f0, .int .u32 x.f0.f1, .slice A2 x.f1.length c2, .int .u64 x.f2, .int .u64 a.f0, .int .u32 a.f1, .int .u64 E]] W (Stepped W p m R P P0 r.length) := by
  have hll := atL_len r E
  have hrw := h.row
  have hrwE := atL_row (l := r) (E := E) (b := 3518437208780) (fun y hy => by have := hrw y hy; omega)
  have hB0 := below_alloc (Below.refl W.heap.size W) (.cells #[.int .i64 3, .int .u64 x.f0.f0, .int .u32 x.f0.f1, .slice A2 x.f1.length c2, .int .u64 x.f2, .int .u64 a.f0, .int .u32 a.f1, .int .u64 E] 66)
  have hx0 := blk_new W (.cells #[.int .i64 3, .int .u64 x.f0.f0, .int .u32 x.f0.f1, .slice A2 x.f1.length c2, .int .u64 x.f2, .int .u64 a.f0, .int .u32 a.f1, .int .u64 E] 66)
  go_enter Try.func32, Try.ntmps32
  go_wp2_with fail
  generalize W.alloc (.cells #[.int .i64 3, .int .u64 x.f0.f0, .int .u32 x.f0.f1, .slice A2 x.f1.length c2, .int .u64 x.f2, .int .u64 a.f0, .int .u32 a.f1, .int .u64 E] 66) = W0 at hB0 hx0 ⊢
  obtain ⟨w1, hw1, hB1, hs1, hseq⟩ := at_gives W0 p m r.length R F r E (fun _ => False) (h.wo.below hB0) h.told (by omega) (fun _ _ h => h) (fun _ h => h.elim)
  refine (at_any p E W0).mono ?_
  rintro e w1' ⟨rfl, rfl⟩
  rw [← hw1]
  clear hw1
  go_wp2_with fail
  refine (gone_any _ _ _ _ w1 w1 (fun args w => by kernel_rfl) hseq (Below.refl _ _) (by omega)).mono ?_
  rintro e w2 ⟨v, rfl, hS, hB2⟩
  obtain ⟨A5, c5, rfl⟩ := Kd.R_slice (Kd.S_R hS)
  have hB01 := btr' hB0 hB1
  have hB02 := btr' hB01 hB2
  have hx2 := blk_below (blk_below hx0 hB1) hB2
  have y7 := blk_cell hx2 7
  have hV2 := (h.below hB02).ref
  have hz2 := hB02.size
  have hz1 := hB01.size
  go_wp2_with fail
  refine (refAt_any A c r E P w2 hV2 (by omega)).mono ?_
  rintro e w3 ⟨v3, rfl, hN3, hB3⟩
  obtain ⟨A6, c6, rfl⟩ := Kd.N_slice hN3
  obtain ⟨_, hN3c, hN3C⟩ := Kd.N_reads' hN3
  have hS3 := Kd.S_below hS hB3
  obtain ⟨_, hS3c, hS3C⟩ := Kd.S_reads' hS3
  go_wp2_with fail
  refine (same_two (atL r E) (by omega) (fun y hy => by have := hrwE y hy; omega) A5 A6 c5 c6 w3 hS3C hS3c hN3C hN3c).mono ?_
  rintro e w4 ⟨rfl, hB4⟩
  have hS4 := Kd.S_below hS3 hB4
  have hB04 := btr' hB02 (btr' hB3 hB4)
  have hz4 := hB04.size
  go_wp2_with fail
  refine (spoilt_any _ A5 c5 (atL r E) w4 (spIn_S hS4) (by omega)).mono ?_
  rintro e w5 ⟨rfl, hsp⟩
  go_wp2_with fail
  refine bodyPost_ret (v := .tuple #[.pointer (some ⟨p, 0, none⟩), .slice A r.length c, .bool true]) (by simp [results, Try.results32, go_sem]; try rfl) rfl ?_
  have hB45 : Below w1.heap.size w4 w5 := hsp.below (fun i hi => hi.1)
  exact stepped_same h (hB04.trans (hB45.mono hz1)) rfl
end Go.Proofs.Ytacacigpendneaa.QV
/- hayloftlaw10.step: one version. -/
namespace Go.Proofs.Ytacacigpendneaa.QV
open Go.RowKit Go.Proofs.YtacacigpendneaaW.PrintWords Go.Proofs.Ytacacigpendneaa.Mp Go.Proofs.Ytacacigpendneaa.Seq Go.Shelf
set_option linter.unusedVariables false
set_option linter.unusedSimpArgs false
set_option maxRecDepth 100000
/-- A row of one's own, where it lies. -/
theorem row_Pg {W : World} {base : Nat} {ok : Nat → Prop} {A : Option Addr} {n c : Nat} {xs : List Val} (h : kS.R tS W base ok (.slice A n c) xs) (hp : 0 < xs.length) : ∃ gx, A = some ⟨gx, 0, none⟩ ∧ base ≤ gx ∧ gx < W.heap.size ∧ ok gx ∧ Pg gx xs.length W := by
  obtain ⟨inner, hown⟩ := Kd.R_own h
  rcases hown.2 with ⟨hv, h0⟩ | ⟨gg, cp, cur, hv, hgb, hh, h1, h2, h3, h4⟩
  · exact absurd h0 (by omega)
  · injection hv with hv1 hv2 hv3
    subst hv1
    have hsz4 : kS.sz = 4 := rfl
    exact ⟨gg, rfl, hgb, blk_lt hh, h.1 gg rfl, cur, hh, by rw [h3, hsz4]; omega⟩
/-- One version in a list of its own, its row made since M's beginning. -/
theorem spIn_one {W : World} {b : Nat} {M : Nat → Prop} {A : Option Addr} {n c : Nat} {y : Ver} {t : Nat} {u0 u1 u3 : Value} (hb : W.heap[b]? = some (.cells #[u0, u1, .slice A n c, u3] t (0, 0))) (hM : ¬ M b) (hn : n = y.f1.length) (hl : y.f1.length ≤ 9223372036854775807) (hr : 0 < y.f1.length → ∃ gx, A = some ⟨gx, 0, none⟩ ∧ M gx ∧ Pg gx y.f1.length W) : SpIn M W (some ⟨b, 0, none⟩) [y] := by
  subst hn
  refine .inr ⟨b, rfl, hM, fun i hi => ?_⟩
  obtain rfl : i = 0 := by simpa using hi
  exact ⟨A, c, blk_cell hb 2, hl, hr⟩
theorem Pg.below {g n : Nat} {W W' : World} (h : Pg g n W) (hb : Below W.heap.size W W') : Pg g n W' := by
  obtain ⟨cur, h1, h2⟩ := h
  exact ⟨cur, blk_below h1 hb, h2⟩
set_option maxHeartbeats 2000000 in
theorem step2 (x : Ver) (a : Nm) (E : Int) (A2 : Option Addr) (c2 : Nat) (W : World) (p m : Nat) (R : Nat → Prop) (F : Nm → Option Ver) (P P0 : Nat → Prop) (A : Option Addr) (c : Nat) (r : List Ver) (h : St W p m R F P (.slice A r.length c) r) (hn : r.length + 2 < 2932031007402) (ha : Nok a) :
    Calls Try.prog 32 #[.pointer (some ⟨p, 0, none⟩), .slice A r.length c, .agg #[.int .i64 2, .int .u64 x.f0.f0, .int .u32 x.f0.f1, .slice A2 x.f1.length c2, .int .u64 x.f2, .int .u64 a.f0, .int .u32 a.f1, .int .u64 E]] W (Stepped W p m R P P0 r.length) := by
  have hrw := h.row
  have hB0 := below_alloc (Below.refl W.heap.size W) (.cells #[.int .i64 2, .int .u64 x.f0.f0, .int .u32 x.f0.f1, .slice A2 x.f1.length c2, .int .u64 x.f2, .int .u64 a.f0, .int .u32 a.f1, .int .u64 E] 66)
  have hx0 := blk_new W (.cells #[.int .i64 2, .int .u64 x.f0.f0, .int .u32 x.f0.f1, .slice A2 x.f1.length c2, .int .u64 x.f2, .int .u64 a.f0, .int .u32 a.f1, .int .u64 E] 66)
  go_enter Try.func32, Try.ntmps32
  go_wp2_with fail
  generalize W.alloc (.cells #[.int .i64 2, .int .u64 x.f0.f0, .int .u32 x.f0.f1, .slice A2 x.f1.length c2, .int .u64 x.f2, .int .u64 a.f0, .int .u32 a.f1, .int .u64 E] 66) = W0 at hB0 hx0 ⊢
  have hfo : firstOf r a = F a := h.told.first h.wo.own a ha
  obtain ⟨ip, hip, hpm⟩ := placeg_f r (by omega) a (r.length + 1) (Nat.le_refl _)
  rw [hfo] at hpm
  have hW0 := h.wo.below hB0
  cases hF : F a with
  | none =>
    rw [hF] at hpm
    have hs := same_f ⟨⟨0, 0⟩, [], 0⟩ (by decide)
    refine (get_none a W0 p m r.length R F hW0 ha hF).mono ?_
    rintro e w2 ⟨v, rfl, hR2, hB2⟩
    obtain ⟨A5, c5, rfl, hle5, hC5⟩ := Kd.R_reads hR2
    have hB02 := btr' hB0 hB2
    have h2 := h.below hB02
    have hx2 := blk_below hx0 hB2
    have y5 := blk_cell hx2 5
    have y6 := blk_cell hx2 6
    have hz2 := hB02.size
    have d1 : decide (ip < 0) = true := decide_eq_true hpm
    clear hpm
    have l0 : ([] : List Val).length = 0 := rfl
    have hb3 : Below w2.heap.size w2 (w2.alloc (.cells #[.int .u64 0, .int .u32 0, .slice A5 0 c5, .int .u64 0] tVer)) := below_alloc (Below.refl _ _) _
    have hx3 := blk_new w2 (.cells #[.int .u64 0, .int .u32 0, .slice A5 0 c5, .int .u64 0] tVer)
    have y5' := pw_cell_below hb3 y5
    have y6' := pw_cell_below hb3 y6
    go_wp2_with fail
    clear y5' y6'
    generalize w2.alloc (.cells #[.int .u64 0, .int .u32 0, .slice A5 0 c5, .int .u64 0] tVer) = w3 at hb3 hx3 ⊢
    have h3 := h2.below hb3
    refine (hayloftref10_Place.calls _ A c r _ _ ip w3 (Kd.V_reads' h3.ref).2.2 (Kd.V_reads' h3.ref).2.1 hip).mono ?_
    rintro e w4 ⟨rfl, hb4⟩
    have hx4 := blk_below hx3 hb4
    have v0 := blk_cell hx4 0
    have v1 := blk_cell hx4 1
    have v2 := blk_cell hx4 2
    have v3 := blk_cell hx4 3
    go_wp2_with fail
    refine (hayloftref10_Same.calls 2 0 0 A5 c5 [] 0 0 0 none 0 [] 0 true w4 (Kd.C_below (Kd.C_below hC5 hb3) hb4) hle5 (Kd.C_nil _ _) (Nat.le_refl _) hs).mono ?_
    rintro e w5 ⟨rfl, hb5⟩
    go_wp2_with fail
    refine bodyPost_ret (v := .tuple #[.pointer (some ⟨p, 0, none⟩), .slice A r.length c, .bool true]) (by simp [results, Try.results32, go_sem]; try rfl) rfl ?_
    exact stepped_same h (btr' hB02 (btr' hb3 (btr' hb4 hb5))) rfl
  | some y =>
    rw [hF] at hpm
    obtain ⟨hp0, hpl, hrd⟩ := hpm
    have hyr : y.f1.length * 40 ≤ 140737488351232 := h.wo.row a y hF
    have hs := same_f y (by omega)
    refine (get_some a W0 p m r.length R F hW0 ha y hF).mono ?_
    rintro e w2 ⟨v, rfl, hR2, hB2⟩
    obtain ⟨A5, c5, rfl, hle5, hC5⟩ := Kd.R_reads hR2
    have hB02 := btr' hB0 hB2
    have h2 := h.below hB02
    have hx2 := blk_below hx0 hB2
    have y5 := blk_cell hx2 5
    have y6 := blk_cell hx2 6
    have hz2 := hB02.size
    have d1 : decide (ip < 0) = false := decide_eq_false (by omega)
    have hz0 := hB0.size
    have hb3 : Below w2.heap.size w2 (w2.alloc (.cells #[.int .u64 y.f0.f0, .int .u32 y.f0.f1, .slice A5 y.f1.length c5, .int .u64 y.f2] tVer)) := below_alloc (Below.refl _ _) _
    have hx3 := blk_new w2 (.cells #[.int .u64 y.f0.f0, .int .u32 y.f0.f1, .slice A5 y.f1.length c5, .int .u64 y.f2] tVer)
    have y5' := pw_cell_below hb3 y5
    have y6' := pw_cell_below hb3 y6
    go_wp2_with fail
    clear y5' y6'
    generalize w2.alloc (.cells #[.int .u64 y.f0.f0, .int .u32 y.f0.f1, .slice A5 y.f1.length c5, .int .u64 y.f2] tVer) = w3 at hb3 hx3 ⊢
    have h3 := h2.below hb3
    have hz3 := hb3.size
    refine (hayloftref10_Place.calls _ A c r _ _ ip w3 (Kd.V_reads' h3.ref).2.2 (Kd.V_reads' h3.ref).2.1 hip).mono ?_
    rintro e w4 ⟨rfl, hb4⟩
    have hx4 := blk_below hx3 hb4
    have h4 := h3.below hb4
    obtain ⟨ad, Ar, cr, rfl, x0, x1, x2, x3, hler, hCr, hFr⟩ := ver_get h4.ref ip hp0 (by omega)
    rw [hrd] at x0 x1 x2 x3 hler hCr hFr
    have v0 := blk_cell hx4 0
    have v1 := blk_cell hx4 1
    have v2 := blk_cell hx4 2
    have v3 := blk_cell hx4 3
    have hC4 := Kd.C_below (Kd.C_below hC5 hb3) hb4
    have hpl' : ip < (r.length : Int) := hpl
    have hz4 := hb4.size
    go_wp2_with fail
    have S4 : ∀ V : World, Below w4.heap.size w4 V → V.cell? ⟨w2.heap.size, 0, none⟩ = some (.int .u64 y.f0.f0) ∧ V.cell? ⟨w2.heap.size, 1, none⟩ = some (.int .u32 y.f0.f1) ∧ V.cell? ⟨w2.heap.size, 2, none⟩ = some (.slice A5 y.f1.length c5) ∧ V.cell? ⟨w2.heap.size, 3, none⟩ = some (.int .u64 y.f2) ∧ V.cell? (ad.add (ip.toNat * 4)) = some (.int .u64 y.f0.f0) ∧ V.cell? ⟨(ad.add (ip.toNat * 4)).block, (ad.add (ip.toNat * 4)).off + 1, none⟩ = some (.int .u32 y.f0.f1) ∧ V.cell? ⟨(ad.add (ip.toNat * 4)).block, (ad.add (ip.toNat * 4)).off + 2, none⟩ = some (.slice Ar y.f1.length cr) ∧ V.cell? ⟨(ad.add (ip.toNat * 4)).block, (ad.add (ip.toNat * 4)).off + 3, none⟩ = some (.int .u64 y.f2) ∧ Below w4.heap.size w4 V := fun V hV => ⟨pw_cell_below hV v0, pw_cell_below hV v1, pw_cell_below hV v2, pw_cell_below hV v3, pw_cell_below hV x0, pw_cell_below hV x1, pw_cell_below hV x2, pw_cell_below hV x3, hV⟩
    have hi0 : (0 : Int) ≤ ip := hp0
    clear v0 v1 v2 v3 x0 x1 x2 x3
    refine wp_region_noPanic ?_
    refine wp_region_held_drew (S := fun V : World => V.cell? ⟨w2.heap.size, 0, none⟩ = some (.int .u64 y.f0.f0) ∧ V.cell? ⟨w2.heap.size, 1, none⟩ = some (.int .u32 y.f0.f1) ∧ V.cell? ⟨w2.heap.size, 2, none⟩ = some (.slice A5 y.f1.length c5) ∧ V.cell? ⟨w2.heap.size, 3, none⟩ = some (.int .u64 y.f2) ∧ V.cell? (ad.add (ip.toNat * 4)) = some (.int .u64 y.f0.f0) ∧ V.cell? ⟨(ad.add (ip.toNat * 4)).block, (ad.add (ip.toNat * 4)).off + 1, none⟩ = some (.int .u32 y.f0.f1) ∧ V.cell? ⟨(ad.add (ip.toNat * 4)).block, (ad.add (ip.toNat * 4)).off + 2, none⟩ = some (.slice Ar y.f1.length cr) ∧ V.cell? ⟨(ad.add (ip.toNat * 4)).block, (ad.add (ip.toNat * 4)).off + 3, none⟩ = some (.int .u64 y.f2) ∧ Below w4.heap.size w4 V) (by kernel_rfl) (S4 _ (below_drew (Below.refl _ _))) (fun hS => ?_)
    have S4 := Lib.hid S4
    refine wpAnyH_take (i := 0) (oi := ⟨some 103, _, _, _, _, _⟩) (v := ?_) rfl (by kernel_rfl) (by kernel_rfl) (by kernel_rfl) (fun _ _ _ h => h) (Or.inl ⟨by rfl, ?_⟩) (by assumption) ?_
    rotate_left
    · intro w hSw; (try dsimp only at hSw); (try go_split_ands); go_simp; (try (with_reducible rfl))
    (try simp only [Act.put, List.setIfInBounds_toArray, List.set_cons_zero, List.set_cons_succ])
    refine wpAnyH_take (i := 1) (oi := ⟨some 104, _, _, _, _, _⟩) (v := ?_) rfl (by kernel_rfl) (by kernel_rfl) (by kernel_rfl) (fun _ _ _ h => h) (Or.inl ⟨by rfl, ?_⟩) (by assumption) ?_
    rotate_left
    · intro w hSw; (try dsimp only at hSw); (try go_split_ands); go_simp; (try (with_reducible rfl))
    (try simp only [Act.put, List.setIfInBounds_toArray, List.set_cons_zero, List.set_cons_succ])
    refine wpAnyH_take (i := 2) (oi := ⟨some 105, _, _, _, _, _⟩) (v := ?_) rfl (by kernel_rfl) (by kernel_rfl) (by kernel_rfl) (fun _ _ _ h => h) (Or.inl ⟨by rfl, ?_⟩) (by assumption) ?_
    rotate_left
    · intro w hSw; (try dsimp only at hSw); (try go_split_ands); go_simp; (try (with_reducible rfl))
    (try simp only [Act.put, List.setIfInBounds_toArray, List.set_cons_zero, List.set_cons_succ])
    refine wpAnyH_take (i := 3) (oi := ⟨some 106, _, _, _, _, _⟩) (v := ?_) rfl (by kernel_rfl) (by kernel_rfl) (by kernel_rfl) (fun _ _ _ h => h) (Or.inl ⟨by rfl, ?_⟩) (by assumption) ?_
    rotate_left
    · intro w hSw; (try dsimp only at hSw); (try go_split_ands); go_simp; (try (with_reducible rfl))
    (try simp only [Act.put, List.setIfInBounds_toArray, List.set_cons_zero, List.set_cons_succ])
    refine wpAnyH_take (i := 4) (oi := ⟨some 107, _, _, _, _, _⟩) (v := ?_) rfl (by kernel_rfl) (by kernel_rfl) (by kernel_rfl) (fun _ _ _ h => h) (Or.inl ⟨by rfl, ?_⟩) (by assumption) ?_
    rotate_left
    · intro w hSw; (try dsimp only at hSw); (try go_split_ands); go_simp; (try (with_reducible rfl))
    (try simp only [Act.put, List.setIfInBounds_toArray, List.set_cons_zero, List.set_cons_succ])
    refine wpAnyH_take (i := 5) (oi := ⟨some 108, _, _, _, _, _⟩) (v := ?_) rfl (by kernel_rfl) (by kernel_rfl) (by kernel_rfl) (fun _ _ _ h => h) (Or.inl ⟨by rfl, ?_⟩) (by assumption) ?_
    rotate_left
    · intro w hSw; (try dsimp only at hSw); (try go_split_ands); go_simp; (try (with_reducible rfl))
    (try simp only [Act.put, List.setIfInBounds_toArray, List.set_cons_zero, List.set_cons_succ])
    refine wpAnyH_take (i := 6) (oi := ⟨some 109, _, _, _, _, _⟩) (v := ?_) rfl (by kernel_rfl) (by kernel_rfl) (by kernel_rfl) (fun _ _ _ h => h) (Or.inl ⟨by rfl, ?_⟩) (by assumption) ?_
    rotate_left
    · intro w hSw; (try dsimp only at hSw); (try go_split_ands); go_simp; (try (with_reducible rfl))
    (try simp only [Act.put, List.setIfInBounds_toArray, List.set_cons_zero, List.set_cons_succ])
    refine wpAnyH_ready (rs := [7]) (by kernel_rfl) (by simp) ?_
    refine AllReadyH.cons (o := ⟨some 110, _, _, _, _, _⟩) rfl (fun K hK => ?_) AllReadyH.nil
    go_simp
    refine (hayloftref10_Same.calls (y.f1.length + 2) y.f0.f0 y.f0.f1 A5 c5 y.f1 y.f2 y.f0.f0 y.f0.f1 Ar cr y.f1 y.f2 true _ (Kd.C_below hC4 (below_drew (Below.refl _ _))) hle5 (Kd.C_below hCr (below_drew (Below.refl _ _))) hler hs).mono ?_
    rintro e w5 ⟨rfl, hb5⟩
    have hb45 : Below w4.heap.size w4 w5 := (below_drew (Below.refl _ _)).trans hb5
    have hS5 := S4.out w5 hb45
    refine hK.out _ _ hS5 (fun hS => ?_)
    clear hK K
    (try simp only [Act.put, List.setIfInBounds_toArray, List.set_cons_zero, List.set_cons_succ])
    refine wpAnyH_take (i := 8) (oi := ⟨some 111, _, _, _, _, _⟩) (v := ?_) rfl (by kernel_rfl) (by kernel_rfl) (by kernel_rfl) (fun _ _ _ h => h) (Or.inl ⟨by rfl, ?_⟩) (by assumption) ?_
    rotate_left
    · intro w hSw; (try dsimp only at hSw); (try go_split_ands); go_simp; (try (with_reducible rfl))
    (try simp only [Act.put, List.setIfInBounds_toArray, List.set_cons_zero, List.set_cons_succ])
    refine wpAnyH_take (i := 9) (oi := ⟨some 19, _, _, _, _, _⟩) (v := ?_) rfl (by kernel_rfl) (by kernel_rfl) (by kernel_rfl) (fun _ _ _ h => h) (Or.inl ⟨by rfl, ?_⟩) (by assumption) ?_
    rotate_left
    · intro w hSw; (try dsimp only at hSw); (try go_split_ands); go_simp; (try (with_reducible rfl))
    (try simp only [Act.put, List.setIfInBounds_toArray, List.set_cons_zero, List.set_cons_succ])
    refine wpAnyH_done (by kernel_rfl) ?_ _
    refine NoPanic.normal ?_
    have v0 := hS5.1
    have v1 := hS5.2.1
    have v2 := hS5.2.2.1
    have v3 := hS5.2.2.2.1
    have hz5 := hb45.size
    have hzW := h.wo.ml
    clear hS5 hS
    go_wp2_with fail
    have hb6 : Below w5.heap.size w5 (w5.alloc (.cells #[.int .u64 y.f0.f0, .int .u32 y.f0.f1, .slice A5 y.f1.length c5, .int .u64 y.f2] tVer)) := below_alloc (Below.refl _ _) _
    have hx6 := blk_new w5 (.cells #[.int .u64 y.f0.f0, .int .u32 y.f0.f1, .slice A5 y.f1.length c5, .int .u64 y.f2] tVer)
    generalize w5.alloc (.cells #[.int .u64 y.f0.f0, .int .u32 y.f0.f1, .slice A5 y.f1.length c5, .int .u64 y.f2] tVer) = w6 at hb6 hx6 ⊢
    have hB26 : Below w2.heap.size w2 w6 := btr' hb3 (btr' hb4 (btr' hb45 hb6))
    have hB06 := btr' hB02 hB26
    refine (spoilt_any (fun k => W0.heap.size ≤ k ∧ k < w2.heap.size) (some ⟨w5.heap.size, 0, none⟩) 1 [y] w6 (spIn_one hx6 (fun hk => by omega) rfl (by omega) (fun hp => by
      obtain ⟨gx, e1, e2, e3, _, e4⟩ := row_Pg hR2 hp
      exact ⟨gx, e1, ⟨e2, e3⟩, e4.below hB26⟩)) (by simp)).mono ?_
    rintro e w7 ⟨rfl, hsp⟩
    have hB67 : Below W0.heap.size w6 w7 := hsp.below (fun i hi => hi.1)
    go_wp2_with fail
    refine bodyPost_ret (v := .tuple #[.pointer (some ⟨p, 0, none⟩), .slice (some ad) r.length c, .bool true]) (by simp [results, Try.results32, go_sem]; try rfl) rfl ?_
    exact stepped_same h (hB06.trans (hB67.mono hz0)) rfl
end Go.Proofs.Ytacacigpendneaa.QV
/- hayloftlaw10.step: one more version. -/
namespace Go.Proofs.Ytacacigpendneaa.QV
open Go.RowKit Go.Proofs.YtacacigpendneaaW.PrintWords Go.Proofs.Ytacacigpendneaa.Mp Go.Proofs.Ytacacigpendneaa.Seq Go.Shelf
set_option linter.unusedVariables false
set_option linter.unusedSimpArgs false
set_option maxRecDepth 100000
/-- What there is behind an addition, and the answer. -/
def adR (r : List Ver) (x : Ver) : List Ver × Int := if hasN r x.f0 = true then (r, 100) else if x.f2 = 0 then (putR false r x, 0) else if x.f2 ≤ x.f0.f0 then (r, 101) else (putR false r x, 0)
theorem add_f (r : List Ver) (hl : r.length + 2 < 2932031007402) (x : Ver) : hayloftref10_Add.f (2 * r.length + 1) r x.f0.f0 x.f0.f1 x.f1 x.f2 = some (adR r x) := by
  obtain ⟨p, h1, h2⟩ := place_f r (by omega) x.f0 (2 * r.length + 1) (by omega)
  have h3 := put_f r hl x (2 * r.length + 1) (Nat.le_refl _)
  unfold hayloftref10_Add.f adR
  rw [h1, Option.bind_some, h3]
  cases hh : hasN r x.f0
  · rw [hh] at h2
    have : p < 0 := h2.2 rfl
    rw [if_neg (by omega), if_neg Bool.false_ne_true]
    by_cases h0 : x.f2 = 0
    · rw [if_pos h0, if_pos h0]; rfl
    · rw [if_neg h0, if_neg h0]
      by_cases h4 : x.f2 ≤ x.f0.f0
      · rw [if_pos h4, if_pos h4]
      · rw [if_neg h4, if_neg h4]; rfl
  · rw [hh] at h2
    have : ¬ p < 0 := fun h => by have := h2.1 h; cases this
    rw [if_pos (by omega), if_pos rfl]
theorem adR_len (r : List Ver) (x : Ver) : (adR r x).1.length ≤ r.length + 1 := by
  unfold adR
  have := putR_len x r false
  split
  · show r.length ≤ _; omega
  · split
    · exact this
    · split
      · show r.length ≤ _; omega
      · exact this
theorem adR_od (r : List Ver) (x : Ver) (h : ∀ y ∈ r, y.f2 = 0 ∨ y.f0.f0 < y.f2) : ∀ y ∈ (adR r x).1, y.f2 = 0 ∨ y.f0.f0 < y.f2 := by
  have hp : (x.f2 = 0 ∨ x.f0.f0 < x.f2) → ∀ y ∈ putR false r x, y.f2 = 0 ∨ y.f0.f0 < y.f2 := fun hx y hy => by
    rcases (putR_mem _ _ _ _).1 hy with ⟨h1, _⟩ | ⟨_, rfl⟩
    · exact h y h1
    · exact hx
  unfold adR
  split
  · exact h
  · split
    · exact hp (.inl (by assumption))
    · split
      · exact h
      · exact hp (.inr (by omega))
theorem add_gen (x : Ver) (A1 : Option Addr) (c1 : Nat) (w : World) (p m n : Nat) (R : Nat → Prop) (F : Nm → Option Ver) (r : List Ver) (h : Wo w p m n R F) (hT : IsTold F r) (hx : Nok x.f0) (hr : kS.C w A1 x.f1.length x.f1) (hc : x.f1.length ≤ c1) (hb : x.f1.length * 40 ≤ 140737488351232) (hn : n < maxLen) :
    Calls Try.prog 20 #[.pointer (some ⟨p, 0, none⟩), .agg #[.int .u64 x.f0.f0, .int .u32 x.f0.f1, .slice A1 x.f1.length c1, .int .u64 x.f2]] w fun e w' => e = .returned (.int .i64 (adR r x).2) ∧ ∃ n' R' F', Wo w' p m n' R' F' ∧ IsTold F' (adR r x).1 ∧ w.grownBy w' (some m) ∧ ∀ k, R' k → R k ∨ w.heap.size ≤ k := by
  have hh := hT.has x.f0 hx
  have fin : ∀ w', Below w.heap.size w w' → ∃ n' R' F', Wo w' p m n' R' F' ∧ IsTold F' r ∧ w.grownBy w' (some m) ∧ ∀ k, R' k → R k ∨ w.heap.size ≤ k := fun w' hB => ⟨n, R, F, h.below hB, hT, below_grown hB m, fun k hk => .inl hk⟩
  cases hF : F x.f0 with
  | some y =>
    have he : adR r x = (r, 100) := by unfold adR; rw [hh, hF]; rfl
    refine (add_twice x A1 c1 w p m n R F h hx (by rw [hF]; rfl)).mono ?_
    rintro e w' ⟨rfl, hB⟩
    rw [he]
    exact ⟨rfl, fin w' hB⟩
  | none =>
    have hf : hasN r x.f0 = false := by rw [hh, hF]; rfl
    have ok : (x.f2 = 0 ∨ (x.f2 ≠ 0 ∧ x.f0.f0 < x.f2)) → Calls Try.prog 20 #[.pointer (some ⟨p, 0, none⟩), .agg #[.int .u64 x.f0.f0, .int .u32 x.f0.f1, .slice A1 x.f1.length c1, .int .u64 x.f2]] w fun e w' => e = .returned (.int .i64 0) ∧ ∃ n' R' F', Wo w' p m n' R' F' ∧ IsTold F' (putR false r x) ∧ w.grownBy w' (some m) ∧ ∀ k, R' k → R k ∨ w.heap.size ≤ k := fun h2 => by
      refine (add_ok x A1 c1 w p m n R F h hx hr hc hb hn hF h2).mono ?_
      rintro e w' ⟨rfl, hWo, hg⟩
      exact ⟨rfl, _, _, _, hWo, put_told hT h.own x hx, hg, fun k hk => hk.imp id (fun z => z.1)⟩
    by_cases h0 : x.f2 = 0
    · have he : adR r x = (putR false r x, 0) := by unfold adR; rw [hf, if_neg (by simp), if_pos h0]
      rw [he]
      exact ok (.inl h0)
    · by_cases h4 : x.f2 ≤ x.f0.f0
      · have he : adR r x = (r, 101) := by unfold adR; rw [hf, if_neg (by simp), if_neg h0, if_pos h4]
        refine (add_epoch x A1 c1 w p m n R F h hx hF h0 h4).mono ?_
        rintro e w' ⟨rfl, hB⟩
        rw [he]
        exact ⟨rfl, fin w' hB⟩
      · have he : adR r x = (putR false r x, 0) := by unfold adR; rw [hf, if_neg (by simp), if_neg h0, if_neg h4]
        rw [he]
        exact ok (.inr ⟨h0, by omega⟩)
theorem Pg.at_ {g n : Nat} {W W' : World} (h : Pg g n W) (e : W'.heap[g]? = W.heap[g]?) : Pg g n W' := by
  obtain ⟨cur, h1, h2⟩ := h
  exact ⟨cur, e.trans h1, h2⟩
set_option maxHeartbeats 4000000 in
theorem step0 (x : Ver) (a : Nm) (E : Int) (A2 : Option Addr) (c2 : Nat) (W : World) (p m : Nat) (R : Nat → Prop) (F : Nm → Option Ver) (P P0 : Nat → Prop) (A : Option Addr) (c : Nat) (r : List Ver) (h : St W p m R F P (.slice A r.length c) r) (hn : r.length + 2 < 2932031007402)
    (hx : Nok x.f0) (hle : x.f1.length ≤ c2) (hF2 : Kd.F kS W P0 A2 x.f1.length x.f1) (hrow : x.f1.length * 40 ≤ 140737488351232) (hP0 : ∀ k, P0 k → k < W.heap.size) (hPm : ¬ P0 m) (hPp : ¬ P0 p) :
    Calls Try.prog 32 #[.pointer (some ⟨p, 0, none⟩), .slice A r.length c, .agg #[.int .i64 0, .int .u64 x.f0.f0, .int .u32 x.f0.f1, .slice A2 x.f1.length c2, .int .u64 x.f2, .int .u64 a.f0, .int .u32 a.f1, .int .u64 E]] W (Stepped W p m R P P0 r.length) := by
  have hx0 : ((W.alloc (.cells #[.int .i64 0, .int .u64 x.f0.f0, .int .u32 x.f0.f1, .slice A2 x.f1.length c2, .int .u64 x.f2, .int .u64 a.f0, .int .u32 a.f1, .int .u64 E] 66)).alloc (.cells #[.int .u64 x.f0.f0, .int .u32 x.f0.f1, .slice A2 x.f1.length c2, .int .u64 x.f2] tVer)).heap[W.heap.size]? = some (.cells #[.int .i64 0, .int .u64 x.f0.f0, .int .u32 x.f0.f1, .slice A2 x.f1.length c2, .int .u64 x.f2, .int .u64 a.f0, .int .u32 a.f1, .int .u64 E] 66 (0, 0)) := blk_alloc (blk_new W _) _
  have hx1 := blk_new (W.alloc (.cells #[.int .i64 0, .int .u64 x.f0.f0, .int .u32 x.f0.f1, .slice A2 x.f1.length c2, .int .u64 x.f2, .int .u64 a.f0, .int .u32 a.f1, .int .u64 E] 66)) (.cells #[.int .u64 x.f0.f0, .int .u32 x.f0.f1, .slice A2 x.f1.length c2, .int .u64 x.f2] tVer)
  rw [World.size_alloc] at hx1
  have hB1 : Below W.heap.size W ((W.alloc (.cells #[.int .i64 0, .int .u64 x.f0.f0, .int .u32 x.f0.f1, .slice A2 x.f1.length c2, .int .u64 x.f2, .int .u64 a.f0, .int .u32 a.f1, .int .u64 E] 66)).alloc (.cells #[.int .u64 x.f0.f0, .int .u32 x.f0.f1, .slice A2 x.f1.length c2, .int .u64 x.f2] tVer)) := below_alloc (below_alloc (Below.refl _ _) _) _
  have hs1 : ((W.alloc (.cells #[.int .i64 0, .int .u64 x.f0.f0, .int .u32 x.f0.f1, .slice A2 x.f1.length c2, .int .u64 x.f2, .int .u64 a.f0, .int .u32 a.f1, .int .u64 E] 66)).alloc (.cells #[.int .u64 x.f0.f0, .int .u32 x.f0.f1, .slice A2 x.f1.length c2, .int .u64 x.f2] tVer)).heap.size = W.heap.size + 2 := by rw [World.size_alloc, World.size_alloc]
  have hC2 := Kd.C_below (Kd.F_now hF2) hB1
  have q3 := blk_cell hx0 3
  go_enter Try.func32, Try.ntmps32
  go_wp2_with (first
    | (at_builtin; refine Kd.R_append_rows kS (w0 := _) _ rfl (.const (.slice none 0 0)) (.tmp 36) 27 69 _ 40 rfl Try.underlying27 infoS rfl (by decide) (by decide) (.slice none 0 0) [] x.f1 A2 x.f1.length c2 (fun _ => True) (fun _ => False) rfl rfl (Kd.R_nil _ _ _ _ _) hC2 (fun x cs h => kS_KM x cs h) (fun _ h => h.elim) (fun _ _ => trivial) (Below.refl _ _) (Nat.le_refl _) (by simp; omega) ?_
       intro v1 w4 hv1 hB4 hg4 hat4
       obtain ⟨A1, c1, rfl⟩ := Kd.R_slice hv1
       clear hg4 hat4 q3
       have hx14 := blk_below hx1 hB4
       have d0 := blk_cell hx14 0
       have d1 := blk_cell hx14 1
       have d2 := blk_cell hx14 2
       have d3 := blk_cell hx14 3
       have df := blk_frozen hx14 2)
    | fail)
  clear d0 d1 d2 d3 df
  generalize (W.alloc (.cells #[.int .i64 0, .int .u64 x.f0.f0, .int .u32 x.f0.f1, .slice A2 x.f1.length c2, .int .u64 x.f2, .int .u64 a.f0, .int .u32 a.f1, .int .u64 E] 66)).alloc (.cells #[.int .u64 x.f0.f0, .int .u32 x.f0.f1, .slice A2 x.f1.length c2, .int .u64 x.f2] tVer) = W1 at hx0 hx1 hB1 hs1 hC2 hv1 hB4
  have hz4 := hB4.size
  have hx5 : (w4.setCell ⟨W.heap.size + 1, 2, none⟩ (.slice A1 x.f1.length c1)).heap[W.heap.size + 1]? = some (.cells #[.int .u64 x.f0.f0, .int .u32 x.f0.f1, .slice A1 x.f1.length c1, .int .u64 x.f2] tVer (0, 0)) := blk_set hx14 2 _
  have hxo5 : (w4.setCell ⟨W.heap.size + 1, 2, none⟩ (.slice A1 x.f1.length c1)).heap[W.heap.size]? = some (.cells #[.int .i64 0, .int .u64 x.f0.f0, .int .u32 x.f0.f1, .slice A2 x.f1.length c2, .int .u64 x.f2, .int .u64 a.f0, .int .u32 a.f1, .int .u64 E] 66 (0, 0)) := (Below.heap_setCell _ _ _ _ (by show W.heap.size ≠ W.heap.size + 1; omega)).trans (blk_below hx0 hB4)
  have hB5 : Below W.heap.size W (w4.setCell ⟨W.heap.size + 1, 2, none⟩ (.slice A1 x.f1.length c1)) := (btr' hB1 hB4).setCell (p := ⟨W.heap.size + 1, 2, none⟩) (by show W.heap.size ≤ W.heap.size + 1; omega) _
  have hv5 := Kd.R_step (Kd.R_bound hv1) (w1 := w4.setCell ⟨W.heap.size + 1, 2, none⟩ (.slice A1 x.f1.length c1)) (fun k hk _ => Below.heap_setCell _ _ _ _ (by show k ≠ W.heap.size + 1; have := hk.2.1; omega))
  have hz5 : (w4.setCell ⟨W.heap.size + 1, 2, none⟩ (.slice A1 x.f1.length c1)).heap.size = w4.heap.size := World.size_setCell ..
  generalize w4.setCell ⟨W.heap.size + 1, 2, none⟩ (.slice A1 x.f1.length c1) = w5 at hx5 hxo5 hB5 hv5 hz5 ⊢
  obtain ⟨A1', c1', he1, hle1, hC1⟩ := Kd.R_reads hv5
  injection he1 with e1 _ e3
  subst e1
  subst e3
  have hpl := h.wo.pl
  have hml := h.wo.ml
  refine (add_gen x A1 c1 w5 p m r.length R F r (h.wo.below hB5) h.told hx hC1 hle1 hrow (by unfold maxLen; omega)).mono ?_
  rintro e w6 ⟨rfl, n', R', F', hWo6, hT6, hg6, hR6⟩
  have hx6 := blk_grown hx5 hg6 (by intro e; injection e with e; omega)
  have hxo6 := blk_grown hxo5 hg6 (by intro e; injection e with e; omega)
  have e0 := blk_cell hx6 0
  have e1 := blk_cell hx6 1
  have e2 := blk_cell hx6 2
  have e3 := blk_cell hx6 3
  have hz6 := hg6.size
  have hsz := hB5.size
  have hadl := adR_len r x
  have haf : hayloftref10_Add.f (2 * r.length + 1) r x.f0.f0 x.f0.f1 x.f1 x.f2 = some ((adR r x).1, (adR r x).2) := add_f r hn x
  have hod := adR_od r x h.od
  generalize (adR r x).1 = s, (adR r x).2 = z at hT6 hadl haf hod ⊢
  go_wp2_with fail
  have hb7 : Below w6.heap.size w6 (w6.alloc (.cells #[.int .u64 x.f0.f0, .int .u32 x.f0.f1, .slice A1 x.f1.length c1, .int .u64 x.f2] tVer)) := below_alloc (Below.refl _ _) _
  have hx7 := blk_new w6 (.cells #[.int .u64 x.f0.f0, .int .u32 x.f0.f1, .slice A1 x.f1.length c1, .int .u64 x.f2] tVer)
  have hz7 := hb7.size
  generalize w6.alloc (.cells #[.int .u64 x.f0.f0, .int .u32 x.f0.f1, .slice A1 x.f1.length c1, .int .u64 x.f2] tVer) = w7 at hb7 hx7 hz7 ⊢
  clear e0 e1 e2 e3
  have hold7 : ∀ k, k < w5.heap.size → k ≠ m → w7.heap[k]? = w5.heap[k]? := fun k hk hn => (hb7.block k (by omega)).trans (hg6.block k hk (by intro e; injection e with e; exact hn e))
  refine (spoilt_any (fun k => W1.heap.size ≤ k ∧ k < w5.heap.size) (some ⟨w6.heap.size, 0, none⟩) 1 [x] w7 (spIn_one hx7 (fun hk => by omega) rfl (by omega) (fun hp => by
    obtain ⟨gx, e1, e2, e3, _, e4⟩ := row_Pg hv5 hp
    exact ⟨gx, e1, ⟨e2, e3⟩, e4.at_ (hold7 gx e3 (by omega))⟩)) (by simp)).mono ?_
  rintro e w8 ⟨rfl, hsp⟩
  have hall : ∀ k, k < W.heap.size → k ≠ m → w8.heap[k]? = W.heap[k]? := fun k hk hn => ((hsp.block k (by omega)).trans (hold7 k (by omega) hn)).trans (hB5.block k hk)
  have hWo8 : Wo w8 p m n' R' F' := (hWo6.below hb7).keep (Nat.le_of_eq hsp.size.symm) (hsp.block p (by omega)) (hsp.block m (by omega)) (fun k hk => hsp.block k (fun hM => by
    rcases hR6 k hk with z | z
    · have := h.wo.rl k z; omega
    · omega))
  have hV8 := Kd.V_step h.ref (w1 := w8) (fun k hk hlt => hall k hlt (fun e => h.pm (e ▸ hk)))
  have hF8 := Kd.F_step hF2 (W1 := w8) (fun k hk hlt => hall k hlt (fun e => hPm (e ▸ hk)))
  have hxo8 : w8.heap[W.heap.size]? = some (.cells #[.int .i64 0, .int .u64 x.f0.f0, .int .u32 x.f0.f1, .slice A2 x.f1.length c2, .int .u64 x.f2, .int .u64 a.f0, .int .u32 a.f1, .int .u64 E] 66 (0, 0)) := ((hsp.block _ (by omega)).trans (hb7.block _ (by omega))).trans hxo6
  have q1 := blk_cell hxo8 1
  have q2 := blk_cell hxo8 2
  have q3 := blk_cell hxo8 3
  have q4 := blk_cell hxo8 4
  have hz8 := hsp.size
  clear hx5 hxo5 hx6 hxo6 hx7 hxo8 hx14 hx0 hx1
  go_wp2_with fail
  refine (hayloftref10_Add.calls (2 * r.length + 1) P A c r x.f0.f0 x.f0.f1 P0 A2 c2 x.f1 x.f2 s z w8 hV8 (Kd.V_mk hle hF8) haf).mono ?_
  rintro e w9 ⟨v9, rfl, hV9, hB9⟩
  obtain ⟨A9, c9, rfl⟩ := Kd.V_slice hV9
  have hz9 := hB9.size
  go_wp2_with fail
  refine bodyPost_ret (v := .tuple #[.pointer (some ⟨p, 0, none⟩), .slice A9 s.length c9, .bool true]) (by simp [results, Try.results32, go_sem]; try rfl) rfl ?_
  refine ⟨p, m, R', F', (fun k => ((P k ∨ P0 k) ∨ w8.heap.size ≤ k) ∧ k < w9.heap.size), _, s, rfl, ⟨wo_fit (hWo8.below hB9) hT6, hT6, Kd.V_bound hV9, fun k hk => hk.2, fun hk => ?_, fun hk => ?_, hod⟩, ⟨?_, ?_, ?_, by omega, fun k hk hn => (hB9.block k (by omega)).trans (hall k hk (by intro e; exact hn (by rw [e])))⟩, .inl ⟨rfl, rfl⟩, fun k hk => (hR6 k hk).imp id (fun z => by omega), fun k hk => by rcases hk.1 with (z | z) | z; exact .inl z; exact .inr (.inl z); exact .inr (.inr (by omega)), hadl⟩
  · rcases hk.1 with (z | z) | z
    · exact h.pm z
    · exact hPm z
    · omega
  · rcases hk.1 with (z | z) | z
    · exact h.pp z
    · exact hPp z
    · omega
  · exact hB9.os.trans (hsp.os.trans (hb7.os.trans (hg6.os.trans hB5.os)))
  · exact hB9.tape.trans (hsp.tape.trans (hb7.tape.trans (hg6.tape.trans hB5.tape)))
  · exact hB9.output.trans (hsp.output.trans (hb7.output.trans (hg6.output.trans hB5.output)))
end Go.Proofs.Ytacacigpendneaa.QV
/- hayloftlaw10.step: a deletion. -/
namespace Go.Proofs.Ytacacigpendneaa.QV
open Go.RowKit Go.Proofs.YtacacigpendneaaW.PrintWords Go.Proofs.Ytacacigpendneaa.Mp Go.Proofs.Ytacacigpendneaa.Seq Go.Shelf
set_option linter.unusedVariables false
set_option linter.unusedSimpArgs false
set_option maxRecDepth 100000
set_option maxHeartbeats 2000000 in
theorem step1 (x : Ver) (a : Nm) (E : Int) (A2 : Option Addr) (c2 : Nat) (W : World) (p m : Nat) (R : Nat → Prop) (F : Nm → Option Ver) (P P0 : Nat → Prop) (A : Option Addr) (c : Nat) (r : List Ver) (h : St W p m R F P (.slice A r.length c) r) (hn : r.length + 2 < 2932031007402) (ha : Nok a) :
    Calls Try.prog 32 #[.pointer (some ⟨p, 0, none⟩), .slice A r.length c, .agg #[.int .i64 1, .int .u64 x.f0.f0, .int .u32 x.f0.f1, .slice A2 x.f1.length c2, .int .u64 x.f2, .int .u64 a.f0, .int .u32 a.f1, .int .u64 E]] W (Stepped W p m R P P0 r.length) := by
  have hrw := h.row
  have hB0 := below_alloc (Below.refl W.heap.size W) (.cells #[.int .i64 1, .int .u64 x.f0.f0, .int .u32 x.f0.f1, .slice A2 x.f1.length c2, .int .u64 x.f2, .int .u64 a.f0, .int .u32 a.f1, .int .u64 E] 66)
  have hx0 := blk_new W (.cells #[.int .i64 1, .int .u64 x.f0.f0, .int .u32 x.f0.f1, .slice A2 x.f1.length c2, .int .u64 x.f2, .int .u64 a.f0, .int .u32 a.f1, .int .u64 E] 66)
  go_enter Try.func32, Try.ntmps32
  go_wp2_with fail
  generalize W.alloc (.cells #[.int .i64 1, .int .u64 x.f0.f0, .int .u32 x.f0.f1, .slice A2 x.f1.length c2, .int .u64 x.f2, .int .u64 a.f0, .int .u32 a.f1, .int .u64 E] 66) = W0 at hB0 hx0 ⊢
  have hfo : firstOf r a = F a := h.told.first h.wo.own a ha
  have fin : ∀ (W2 W3 : World) (A6 : Option Addr) (c6 : Nat), Below W.heap.size W W2 → Below W2.heap.size W2 W3 → Kd.V kVer tVer W3 W2.heap.size (fun k => P k ∨ W2.heap.size ≤ k) (.slice A6 r.length c6) r → Stepped W p m R P P0 r.length (.returned (.tuple #[.pointer (some ⟨p, 0, none⟩), .slice A6 r.length c6, .bool true])) W3 := fun W2 W3 A6 c6 h2 h3 hV => by
    have hB := btr' h2 h3
    have hS := h.below hB
    refine ⟨p, m, R, F, (fun k => (P k ∨ W2.heap.size ≤ k) ∧ k < W3.heap.size), _, r, rfl, ⟨hS.wo, h.told, Kd.V_bound hV, fun k hk => hk.2, fun hk => ?_, fun hk => ?_, h.od⟩, below_grown hB m, .inl ⟨rfl, rfl⟩, fun k hk => .inl hk, fun k hk => hk.1.imp id (fun z => .inr (by have := h2.size; omega)), by omega⟩
    · rcases hk.1 with z | z
      · exact h.pm z
      · have := h.wo.ml; have := h2.size; omega
    · rcases hk.1 with z | z
      · exact h.pp z
      · have := h.wo.pl; have := h2.size; omega
  have hW0 := h.wo.below hB0
  cases hF : F a with
  | none =>
    have her : erR r a E = (r, 102) := by unfold erR; rw [hfo, hF]
    refine (erase_none a E W0 p m r.length R F hW0 ha hF).mono ?_
    rintro e w2 ⟨rfl, hB2⟩
    have hB02 := btr' hB0 hB2
    have h2 := h.below hB02
    have hx2 := blk_below hx0 hB2
    have y5 := blk_cell hx2 5
    have y6 := blk_cell hx2 6
    have y7 := blk_cell hx2 7
    have hz2 := hB02.size
    go_wp2_with fail
    refine (refErase_any A c r a E P w2 h2.ref (by omega)).mono ?_
    rw [her]
    rintro e w3 ⟨v3, rfl, hV3, hB3⟩
    obtain ⟨A6, c6, rfl⟩ := Kd.V_slice hV3
    go_wp2_with fail
    refine bodyPost_ret (v := .tuple #[.pointer (some ⟨p, 0, none⟩), .slice A6 r.length c6, .bool true]) (by simp [results, Try.results32, go_sem]; try rfl) rfl ?_
    exact fin w2 w3 A6 c6 hB02 hB3 hV3
  | some y =>
   have hy0 : y.f0 = a := h.wo.own a y hF
   by_cases hE : E ≤ a.f0
   · have her : erR r a E = (r, 101) := by unfold erR; rw [hfo, hF]; exact if_pos hE
     refine (erase_epoch a E W0 p m r.length R F hW0 ha y hF hE).mono ?_
     rintro e w2 ⟨rfl, hB2⟩
     have hB02 := btr' hB0 hB2
     have h2 := h.below hB02
     have hx2 := blk_below hx0 hB2
     have y5 := blk_cell hx2 5
     have y6 := blk_cell hx2 6
     have y7 := blk_cell hx2 7
     have hz2 := hB02.size
     go_wp2_with fail
     refine (refErase_any A c r a E P w2 h2.ref (by omega)).mono ?_
     rw [her]
     rintro e w3 ⟨v3, rfl, hV3, hB3⟩
     obtain ⟨A6, c6, rfl⟩ := Kd.V_slice hV3
     go_wp2_with fail
     refine bodyPost_ret (v := .tuple #[.pointer (some ⟨p, 0, none⟩), .slice A6 r.length c6, .bool true]) (by simp [results, Try.results32, go_sem]; try rfl) rfl ?_
     exact fin w2 w3 A6 c6 hB02 hB3 hV3
   · by_cases hd : y.f2 = 0
     · have her : erR r a E = (putR false r ⟨y.f0, y.f1, E⟩, 0) := by unfold erR; rw [hfo, hF]; show (if E ≤ a.f0 then _ else _) = _; rw [if_neg hE, if_pos hd]
       refine (erase_ok a E W0 p m r.length R F hW0 ha y hF (by omega) hd (by unfold maxLen; omega)).mono ?_
       rintro e w2 ⟨rfl, hWo2, hg2⟩
       have hg := grown_of hB0 hg2
       have hV2 := Kd.V_step h.ref (fun k hk hlt => hg.block k hlt (by intro e; injection e with e; exact h.pm (e ▸ hk)))
       have hx2 := blk_grown hx0 hg2 (by have := h.wo.ml; intro e; injection e with e; omega)
       have y5 := blk_cell hx2 5
       have y6 := blk_cell hx2 6
       have y7 := blk_cell hx2 7
       have hzg := hg.size
       have hT := put_told h.told h.wo.own ⟨y.f0, y.f1, E⟩ (by show Nok y.f0; rw [hy0]; exact ha)
       have hl2 := putR_len ⟨y.f0, y.f1, E⟩ r false
       go_wp2_with fail
       refine (refErase_any A c r a E P w2 hV2 (by omega)).mono ?_
       rw [her]
       rintro e w3 ⟨v3, rfl, hV3, hB3⟩
       have hV3 : Kd.V kVer tVer w3 w2.heap.size (fun k => P k ∨ w2.heap.size ≤ k) v3 (putR false r ⟨y.f0, y.f1, E⟩) := hV3
       have hT2 : IsTold (updV F a (some ⟨y.f0, y.f1, E⟩)) (putR false r ⟨y.f0, y.f1, E⟩) := by rw [← hy0]; exact hT
       have hod : ∀ z ∈ putR false r ⟨y.f0, y.f1, E⟩, z.f2 = 0 ∨ z.f0.f0 < z.f2 := fun z hz => by
         rcases (putR_mem _ _ _ _).1 hz with ⟨h1, _⟩ | ⟨_, rfl⟩
         · exact h.od z h1
         · exact .inr (by show y.f0.f0 < E; rw [hy0]; omega)
       clear hT her
       generalize putR false r ⟨y.f0, y.f1, E⟩ = s at hT2 hV3 hl2 hod
       obtain ⟨A6, c6, rfl⟩ := Kd.V_slice hV3
       have hgF := grown_below hg hB3
       go_wp2_with fail
       refine bodyPost_ret (v := .tuple #[.pointer (some ⟨p, 0, none⟩), .slice A6 s.length c6, .bool true]) (by simp [results, Try.results32, go_sem]; try rfl) rfl ?_
       refine ⟨p, m, R, _, (fun k => (P k ∨ w2.heap.size ≤ k) ∧ k < w3.heap.size), _, s, rfl, ⟨wo_fit (hWo2.below hB3) hT2, hT2, Kd.V_bound hV3, fun k hk => hk.2, fun hk => ?_, fun hk => ?_, hod⟩, hgF, .inl ⟨rfl, rfl⟩, fun k hk => .inl hk, fun k hk => hk.1.imp id (fun h => .inr (by omega)), hl2⟩
       · rcases hk.1 with z | z
         · exact h.pm z
         · have := h.wo.ml; omega
       · rcases hk.1 with z | z
         · exact h.pp z
         · have := h.wo.pl; omega
     · have her : erR r a E = (r, 103) := by unfold erR; rw [hfo, hF]; show (if E ≤ a.f0 then _ else _) = _; rw [if_neg hE, if_neg hd]
       refine (erase_erased a E W0 p m r.length R F hW0 ha y hF (by omega) hd).mono ?_
       rintro e w2 ⟨rfl, hB2⟩
       have hB02 := btr' hB0 hB2
       have h2 := h.below hB02
       have hx2 := blk_below hx0 hB2
       have y5 := blk_cell hx2 5
       have y6 := blk_cell hx2 6
       have y7 := blk_cell hx2 7
       have hz2 := hB02.size
       go_wp2_with fail
       refine (refErase_any A c r a E P w2 h2.ref (by omega)).mono ?_
       rw [her]
       rintro e w3 ⟨v3, rfl, hV3, hB3⟩
       obtain ⟨A6, c6, rfl⟩ := Kd.V_slice hV3
       go_wp2_with fail
       refine bodyPost_ret (v := .tuple #[.pointer (some ⟨p, 0, none⟩), .slice A6 r.length c6, .bool true]) (by simp [results, Try.results32, go_sem]; try rfl) rfl ?_
       exact fin w2 w3 A6 c6 hB02 hB3 hV3
end Go.Proofs.Ytacacigpendneaa.QV
