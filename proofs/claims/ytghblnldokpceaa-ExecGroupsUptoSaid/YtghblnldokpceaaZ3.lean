/- The parts QVx10, GrpK, GrpI, ToldG, Seq3, Ints of this proof, one behind the other. -/
import Derived.Test.YtghblnldokpceaaZ2
/- Printed by mp.py (this session's) with the kit's print: plain functions with the answers of the Go code, and the proofs of it. -/
namespace Go.Proofs.Ytghblnldokpceaa.QV
open Go.RowKit Go.Proofs.YtghblnldokpceaaW.PrintWords Go.Proofs.YtghblnldokpceaaW.PrintLast Go.Proofs.YtghblnldokpceaaW.PrintMore
attribute [local go_sem] max2_int min2_int max_two min_two max_three min_three max_four min_four   -- for this text's walks alone
set_option linter.unusedVariables false
set_option linter.unusedSimpArgs false

/-! ### hayloftref15_agg: function 48 -/
mutual
def hayloftref15_agg.l0 : Nat → List (List (S42)) → Int → Int → Int → Int → Bool → Int → ByteArray → Option (Int × Bool × Int × ByteArray)
  | 0, _, _, _, _, _, _, _, _ => none
  | k + 1, x0, x6, x312000, x312001, x314000, x314001, x314002, x314003 => if x6 < (x0.length : Int) then (if 0 ≤ x6 then ((hayloftref15_At.f (rd_L4 x0 x6) x312001).bind fun bt315 => (if x312000 = 1 then (hayloftref15_agg.j1 k x0 x6 (bt315.1 == 2) x312000 x312001 x314000 x314001 x314002 x314003 bt315.1 bt315.2.1 bt315.2.2.1 bt315.2.2.2) else (hayloftref15_agg.j1 k x0 x6 false x312000 x312001 x314000 x314001 x314002 x314003 bt315.1 bt315.2.1 bt315.2.2.1 bt315.2.2.2))) else (none)) else (some (x314000, x314001, x314002, x314003))
def hayloftref15_agg.j1 : Nat → List (List (S42)) → Int → Bool → Int → Int → Int → Bool → Int → ByteArray → Int → Bool → Int → ByteArray → Option (Int × Bool × Int × ByteArray)
  | 0, _, _, _, _, _, _, _, _, _, _, _, _, _ => none
  | k + 1, x0, x6, x35, x312000, x312001, x314000, x314001, x314002, x314003, x320000, x320001, x320002, x320003 => if x35 = true then (hayloftref15_agg.j2 k x0 x6 x312000 x312001 2 false (wrap64 (x314002 + x320002)) (⟨#[]⟩ : ByteArray) x320000 x320001 x320002 x320003) else (hayloftref15_agg.j2 k x0 x6 x312000 x312001 x314000 x314001 x314002 x314003 x320000 x320001 x320002 x320003)
def hayloftref15_agg.j2 : Nat → List (List (S42)) → Int → Int → Int → Int → Bool → Int → ByteArray → Int → Bool → Int → ByteArray → Option (Int × Bool × Int × ByteArray)
  | 0, _, _, _, _, _, _, _, _, _, _, _, _ => none
  | k + 1, x0, x6, x312000, x312001, x314000, x314001, x314002, x314003, x320000, x320001, x320002, x320003 => if x320000 = 0 then (hayloftref15_agg.l0 k x0 (wrap64 (x6 + 1)) x312000 x312001 x314000 x314001 x314002 x314003) else (if x312000 = 2 then (if x314000 = 0 then (hayloftref15_agg.j3 k x0 x6 true x312000 x312001 x314000 x314001 x314002 x314003 x320000 x320001 x320002 x320003) else ((hayloftref02_Compare.f x320000 x320001 x320002 x320003 x314000 x314001 x314002 x314003).bind fun t320 => (hayloftref15_agg.j3 k x0 x6 (decide (t320 < 0)) x312000 x312001 x314000 x314001 x314002 x314003 x320000 x320001 x320002 x320003))) else (hayloftref15_agg.j3 k x0 x6 false x312000 x312001 x314000 x314001 x314002 x314003 x320000 x320001 x320002 x320003))
def hayloftref15_agg.j3 : Nat → List (List (S42)) → Int → Bool → Int → Int → Int → Bool → Int → ByteArray → Int → Bool → Int → ByteArray → Option (Int × Bool × Int × ByteArray)
  | 0, _, _, _, _, _, _, _, _, _, _, _, _, _ => none
  | k + 1, x0, x6, x58, x312000, x312001, x314000, x314001, x314002, x314003, x320000, x320001, x320002, x320003 => if x58 = true then (if x312000 = 3 then (if x320000 = 0 then (hayloftref15_agg.l0 k x0 (wrap64 (x6 + 1)) x312000 x312001 x320000 x320001 x320002 x320003) else ((hayloftref02_Compare.f x320000 x320001 x320002 x320003 x320000 x320001 x320002 x320003).bind fun t321 => (if t321 > 0 then (hayloftref15_agg.l0 k x0 (wrap64 (x6 + 1)) x312000 x312001 x320000 x320001 x320002 x320003) else (hayloftref15_agg.l0 k x0 (wrap64 (x6 + 1)) x312000 x312001 x320000 x320001 x320002 x320003)))) else (hayloftref15_agg.l0 k x0 (wrap64 (x6 + 1)) x312000 x312001 x320000 x320001 x320002 x320003)) else (if x312000 = 3 then (if x314000 = 0 then (hayloftref15_agg.l0 k x0 (wrap64 (x6 + 1)) x312000 x312001 x320000 x320001 x320002 x320003) else ((hayloftref02_Compare.f x320000 x320001 x320002 x320003 x314000 x314001 x314002 x314003).bind fun t322 => (if t322 > 0 then (hayloftref15_agg.l0 k x0 (wrap64 (x6 + 1)) x312000 x312001 x320000 x320001 x320002 x320003) else (hayloftref15_agg.l0 k x0 (wrap64 (x6 + 1)) x312000 x312001 x314000 x314001 x314002 x314003)))) else (hayloftref15_agg.l0 k x0 (wrap64 (x6 + 1)) x312000 x312001 x314000 x314001 x314002 x314003))
end
def hayloftref15_agg.f (k : Nat) (l0 : List (List (S42))) (a1_0 : Int) (a1_1 : Int) : Option (Int × Bool × Int × ByteArray) := if a1_0 = 0 then (some (2, false, (l0.length : Int), (⟨#[]⟩ : ByteArray))) else (hayloftref15_agg.l0 k l0 0 a1_0 a1_1 0 false 0 (⟨#[]⟩ : ByteArray))
def hayloftref15_agg.T7 : Bool × List (List Nat × List Nat) := (true, [([], []), ([], []), ([0, 1], [0, 1]), ([2], [2]), ([], []), ([4], [4]), ([3, 5], [3, 5]), ([], []), ([7, 6, 6, 0, 1, 2, 3, 4, 5, 6, 7], [6, 7])])
def hayloftref15_agg.B7 : List Nat := [0, 0, 3, 7, 0, 16, 63, 0, 255]
theorem hayloftref15_agg.tab7 : rtab .any (opsOf Try.f48 7) = hayloftref15_agg.T7 := by kernel_rfl
theorem hayloftref15_agg.bits7 : waitsOk hayloftref15_agg.T7.2 hayloftref15_agg.B7 = true := by kernel_rfl
set_option maxHeartbeats 8000000 in
set_option maxRecDepth 100000 in
theorem hayloftref15_agg.calls (k : Nat) (A0 : Option Addr) (c0 : Nat) (l0 : List (List (S42))) (a1_0 : Int) (a1_1 : Int) (r1 : Int) (r2 : Bool) (r3 : Int) (r4 : ByteArray) (w : World) (hr0 : Kd.C (Kd.slice 42 k42) w A0 l0.length l0) (hc0 : l0.length ≤ c0) (h : hayloftref15_agg.f k l0 a1_0 a1_1 = some (r1, r2, r3, r4)) :
    Calls Try.prog 48 #[.slice A0 l0.length c0, .agg #[.int .i64 a1_0, .int .i64 a1_1]] w fun e w' => e = .returned (.agg #[.int .i64 r1, .bool r2, .int .i64 r3, .string r4]) ∧ Below w.heap.size w w' := by
  have hu48 := Try.underlying48
  have hu42 := Try.underlying42
  have HR0 := Aside0.mk hr0
  have HC0 := Aside0.mk hc0
  clear hr0 hc0
  have HB := Aside0.mk (Below.refl w.heap.size w)
  have H : (if a1_0 = 0 then (some (2, false, (l0.length : Int), (⟨#[]⟩ : ByteArray))) else (hayloftref15_agg.l0 k l0 0 a1_0 a1_1 0 false 0 (⟨#[]⟩ : ByteArray))) = some (r1, r2, r3, r4) := h
  clear h
  by_cases c3 : a1_0 = 0
  · rw [if_pos c3] at H
    have c3b0 : (a1_0 == 0) = true := beq_iff_eq.mpr c3
    have c3b1 : (a1_0 != 0) = false := bne_eq_false_iff_eq.mpr c3
    clear c3
    simp only [Option.some.injEq, Prod.mk.injEq] at H
    obtain ⟨rfl, rfl, rfl, rfl⟩ := H
    go_enter Try.func48, Try.ntmps48
    go_wp2_with (first | ((with_reducible refine gate_dst (N := 3) rfl ?_); refine box_event ?hg (N := 3) ?hd (cs := #[.int .i64 a1_0, .int .i64 a1_1]) (t := 48) ?hr ?_; (case hd => rfl); (case hg => rfl); (case hr => first | (go_simp; done) | (go_simp; rfl)); intro gb311 hg w4 hbox hb; have n0_ := Aside0.mk (below_step (by repeat (first | (with_reducible first | exact HB.out | apply below_alloc | apply pw_below_drewN | apply below_drew1) | exact HB.out)) hb); have n1_ := Aside0.mk (hbox); have n2_ := Aside0.mk ((by rw [hg]; exact (below_size (by repeat (first | (with_reducible first | exact HB.out | apply below_alloc | apply pw_below_drewN | apply below_drew1) | exact HB.out))) : w.heap.size ≤ gb311)); have n3_ := Aside0.mk ((by rw [hg]; exact (below_size (by repeat (first | (with_reducible first | exact HB.out | apply below_alloc | apply pw_below_drewN | apply below_drew1) | exact HB.out))) : w.heap.size ≤ gb311)); clear HB; have HB := n0_; have BK311 := n1_; have GW311 := n2_; have GE311 := n3_; clear n0_ n1_ n2_ n3_; clear hb hbox hg) | ((with_reducible refine gate_dst (N := 4) rfl ?_); refine box_event ?hg (N := 4) ?hd (cs := #[.int .i64 0, .bool false, .int .i64 0, .string (⟨#[]⟩ : ByteArray)]) (t := 42) ?hr ?_; (case hd => rfl); (case hg => rfl); (case hr => first | (go_simp; done) | (go_simp; rfl)); intro gb312 hg w5 hbox hb; have n0_ := Aside0.mk (blk_below (g := gb311) (o := .cells #[.int .i64 a1_0, .int .i64 a1_1] 48 (0, 0)) (by (with_reducible repeat (first | refine blk_drewN ?_ _ | refine blk_drew ?_ | refine blk_alloc ?_ _)); exact BK311.out) hb); have n1_ := Aside0.mk (below_step (by repeat (first | (with_reducible first | exact HB.out | apply below_alloc | apply pw_below_drewN | apply below_drew1 | refine below_set ?_ GE311.out) | exact HB.out)) hb); have n2_ := Aside0.mk (hbox); have n3_ := Aside0.mk ((by rw [hg]; exact (below_size (by repeat (first | (with_reducible first | exact HB.out | apply below_alloc | apply pw_below_drewN | apply below_drew1 | refine below_set ?_ GE311.out) | exact HB.out))) : w.heap.size ≤ gb312)); have n4_ := Aside0.mk ((by rw [hg]; exact (below_size (by repeat (first | (with_reducible first | exact HB.out | apply below_alloc | apply pw_below_drewN | apply below_drew1 | refine below_set ?_ GE311.out) | exact HB.out))) : w.heap.size ≤ gb312)); have n5_ := Aside0.mk ((by rw [hg]; exact Nat.ne_of_lt (blk_lt (g := gb311) (o := .cells #[.int .i64 a1_0, .int .i64 a1_1] 48 (0, 0)) (by (with_reducible repeat (first | refine blk_drewN ?_ _ | refine blk_drew ?_ | refine blk_alloc ?_ _)); exact BK311.out)) : gb311 ≠ gb312)); have n6_ := Aside0.mk ((by rw [hg]; exact Nat.ne_of_gt (blk_lt (g := gb311) (o := .cells #[.int .i64 a1_0, .int .i64 a1_1] 48 (0, 0)) (by (with_reducible repeat (first | refine blk_drewN ?_ _ | refine blk_drew ?_ | refine blk_alloc ?_ _)); exact BK311.out)) : gb312 ≠ gb311)); clear BK311; clear HB; have BK311 := n0_; have HB := n1_; have BK312 := n2_; have GW312 := n3_; have GE312 := n4_; have NB311_312 := n5_; have NB312_311 := n6_; clear n0_ n1_ n2_ n3_ n4_ n5_ n6_; clear hb hbox hg; have hnb6 := NB311_312.out; have hnc6 := NB312_311.out; have hcz7_0 : w5.cell? ⟨gb311, 0, none⟩ = some (.int .i64 a1_0) := (blk_cell BK311.out 0).trans rfl; have hcz7_1 : w5.cell? ⟨gb311, 1, none⟩ = some (.int .i64 a1_1) := (blk_cell BK311.out 1).trans rfl; have hfz7_0 := blk_frozen BK311.out 0; have hfz7_1 := blk_frozen BK311.out 1; have hcz8_0 : w5.cell? ⟨gb312, 0, none⟩ = some (.int .i64 0) := (blk_cell BK312.out 0).trans rfl; have hcz8_1 : w5.cell? ⟨gb312, 1, none⟩ = some (.bool false) := (blk_cell BK312.out 1).trans rfl; have hcz8_2 : w5.cell? ⟨gb312, 2, none⟩ = some (.int .i64 0) := (blk_cell BK312.out 2).trans rfl; have hcz8_3 : w5.cell? ⟨gb312, 3, none⟩ = some (.string (⟨#[]⟩ : ByteArray)) := (blk_cell BK312.out 3).trans rfl; have hfz8_0 := blk_frozen BK312.out 0; have hfz8_1 := blk_frozen BK312.out 1; have hfz8_2 := blk_frozen BK312.out 2; have hfz8_3 := blk_frozen BK312.out 3))
    refine bodyPost_ret (results_cell_row rfl _ _ gb312 42 #[.int .i64 2, .bool false, .int .i64 (l0.length : Int), .string (⟨#[]⟩ : ByteArray)] (0, 0) _ rfl (by (with_reducible repeat (first | refine blk_drewN ?_ _ | refine blk_drew ?_ | refine blk_alloc ?_ _)); refine blk_put (cs := #[.int .i64 2, .bool false, .int .i64 (l0.length : Int), .string (⟨#[]⟩ : ByteArray)]) ?_ 3 _ rfl; (with_reducible repeat (first | refine blk_drewN ?_ _ | refine blk_drew ?_ | refine blk_alloc ?_ _)); refine blk_put (cs := #[.int .i64 2, .bool false, .int .i64 0, .string (⟨#[]⟩ : ByteArray)]) ?_ 2 _ rfl; (with_reducible repeat (first | refine blk_drewN ?_ _ | refine blk_drew ?_ | refine blk_alloc ?_ _)); refine blk_put (cs := #[.int .i64 2, .bool false, .int .i64 0, .string (⟨#[]⟩ : ByteArray)]) ?_ 1 _ rfl; (with_reducible repeat (first | refine blk_drewN ?_ _ | refine blk_drew ?_ | refine blk_alloc ?_ _)); refine blk_put (cs := #[.int .i64 0, .bool false, .int .i64 0, .string (⟨#[]⟩ : ByteArray)]) ?_ 0 _ rfl; (with_reducible repeat (first | refine blk_drewN ?_ _ | refine blk_drew ?_ | refine blk_alloc ?_ _)); exact BK312.out) Try.underlying42 rfl (by kernel_rfl)) rfl ?_
    exact ⟨by first | rfl | (simp [errW_none, errW_some] <;> rfl) | (simp [*, errW_none, errW_some] <;> rfl), by repeat (first | (with_reducible first | exact HB.out | apply below_alloc | apply pw_below_drewN | apply below_drew1 | refine below_set ?_ GE311.out | refine below_set ?_ GE312.out) | exact HB.out)⟩
  · rw [if_neg c3] at H
    have c3b0 : (a1_0 == 0) = false := beq_eq_false_iff_ne.mpr c3
    have c3b1 : (a1_0 != 0) = true := bne_iff_ne.mpr c3
    have H' := Aside0.mk H
    clear H
    go_enter Try.func48, Try.ntmps48
    go_wp2_with (first | ((with_reducible refine gate_dst (N := 3) rfl ?_); refine box_event ?hg (N := 3) ?hd (cs := #[.int .i64 a1_0, .int .i64 a1_1]) (t := 48) ?hr ?_; (case hd => rfl); (case hg => rfl); (case hr => first | (go_simp; done) | (go_simp; rfl)); intro gb311 hg w9 hbox hb; have n0_ := Aside0.mk (below_step (by repeat (first | (with_reducible first | exact HB.out | apply below_alloc | apply pw_below_drewN | apply below_drew1) | exact HB.out)) hb); have n1_ := Aside0.mk (hbox); have n2_ := Aside0.mk ((by rw [hg]; exact (below_size (by repeat (first | (with_reducible first | exact HB.out | apply below_alloc | apply pw_below_drewN | apply below_drew1) | exact HB.out))) : w.heap.size ≤ gb311)); have n3_ := Aside0.mk ((by rw [hg]; exact (below_size (by repeat (first | (with_reducible first | exact HB.out | apply below_alloc | apply pw_below_drewN | apply below_drew1) | exact HB.out))) : w.heap.size ≤ gb311)); clear HB; have HB := n0_; have BK311 := n1_; have GW311 := n2_; have GE311 := n3_; clear n0_ n1_ n2_ n3_; clear hb hbox hg) | ((with_reducible refine gate_dst (N := 4) rfl ?_); refine box_event ?hg (N := 4) ?hd (cs := #[.int .i64 0, .bool false, .int .i64 0, .string (⟨#[]⟩ : ByteArray)]) (t := 42) ?hr ?_; (case hd => rfl); (case hg => rfl); (case hr => first | (go_simp; done) | (go_simp; rfl)); intro gb312 hg w10 hbox hb; have n0_ := Aside0.mk (blk_below (g := gb311) (o := .cells #[.int .i64 a1_0, .int .i64 a1_1] 48 (0, 0)) (by (with_reducible repeat (first | refine blk_drewN ?_ _ | refine blk_drew ?_ | refine blk_alloc ?_ _)); exact BK311.out) hb); have n1_ := Aside0.mk (below_step (by repeat (first | (with_reducible first | exact HB.out | apply below_alloc | apply pw_below_drewN | apply below_drew1 | refine below_set ?_ GE311.out) | exact HB.out)) hb); have n2_ := Aside0.mk (hbox); have n3_ := Aside0.mk ((by rw [hg]; exact (below_size (by repeat (first | (with_reducible first | exact HB.out | apply below_alloc | apply pw_below_drewN | apply below_drew1 | refine below_set ?_ GE311.out) | exact HB.out))) : w.heap.size ≤ gb312)); have n4_ := Aside0.mk ((by rw [hg]; exact (below_size (by repeat (first | (with_reducible first | exact HB.out | apply below_alloc | apply pw_below_drewN | apply below_drew1 | refine below_set ?_ GE311.out) | exact HB.out))) : w.heap.size ≤ gb312)); have n5_ := Aside0.mk ((by rw [hg]; exact Nat.ne_of_lt (blk_lt (g := gb311) (o := .cells #[.int .i64 a1_0, .int .i64 a1_1] 48 (0, 0)) (by (with_reducible repeat (first | refine blk_drewN ?_ _ | refine blk_drew ?_ | refine blk_alloc ?_ _)); exact BK311.out)) : gb311 ≠ gb312)); have n6_ := Aside0.mk ((by rw [hg]; exact Nat.ne_of_gt (blk_lt (g := gb311) (o := .cells #[.int .i64 a1_0, .int .i64 a1_1] 48 (0, 0)) (by (with_reducible repeat (first | refine blk_drewN ?_ _ | refine blk_drew ?_ | refine blk_alloc ?_ _)); exact BK311.out)) : gb312 ≠ gb311)); clear BK311; clear HB; have BK311 := n0_; have HB := n1_; have BK312 := n2_; have GW312 := n3_; have GE312 := n4_; have NB311_312 := n5_; have NB312_311 := n6_; clear n0_ n1_ n2_ n3_ n4_ n5_ n6_; clear hb hbox hg; have hnb11 := NB311_312.out; have hnc11 := NB312_311.out; have hcz12_0 : w10.cell? ⟨gb311, 0, none⟩ = some (.int .i64 a1_0) := (blk_cell BK311.out 0).trans rfl; have hcz12_1 : w10.cell? ⟨gb311, 1, none⟩ = some (.int .i64 a1_1) := (blk_cell BK311.out 1).trans rfl; have hfz12_0 := blk_frozen BK311.out 0; have hfz12_1 := blk_frozen BK311.out 1) | ((with_reducible refine gate_dst (N := 5) rfl ?_); refine box_event ?hg (N := 5) ?hd (cs := #[.int .i64 0, .bool false, .int .i64 0, .string (⟨#[]⟩ : ByteArray)]) (t := 42) ?hr ?_; (case hd => rfl); (case hg => rfl); (case hr => first | (go_simp; done) | (go_simp; rfl)); intro gb313 hg w13 hbox hb; have n0_ := Aside0.mk (blk_below (g := gb311) (o := .cells #[.int .i64 a1_0, .int .i64 a1_1] 48 (0, 0)) (by (with_reducible repeat (first | refine blk_drewN ?_ _ | refine blk_drew ?_ | refine blk_alloc ?_ _)); exact BK311.out) hb); have n1_ := Aside0.mk (blk_below (g := gb312) (o := .cells #[.int .i64 0, .bool false, .int .i64 0, .string (⟨#[]⟩ : ByteArray)] 42 (0, 0)) (by (with_reducible repeat (first | refine blk_drewN ?_ _ | refine blk_drew ?_ | refine blk_alloc ?_ _)); exact BK312.out) hb); have n2_ := Aside0.mk (below_step (by repeat (first | (with_reducible first | exact HB.out | apply below_alloc | apply pw_below_drewN | apply below_drew1 | refine below_set ?_ GE311.out | refine below_set ?_ GE312.out) | exact HB.out)) hb); have n3_ := Aside0.mk (hbox); have n4_ := Aside0.mk ((by rw [hg]; exact (below_size (by repeat (first | (with_reducible first | exact HB.out | apply below_alloc | apply pw_below_drewN | apply below_drew1 | refine below_set ?_ GE311.out | refine below_set ?_ GE312.out) | exact HB.out))) : w.heap.size ≤ gb313)); have n5_ := Aside0.mk ((by rw [hg]; exact (below_size (by repeat (first | (with_reducible first | exact HB.out | apply below_alloc | apply pw_below_drewN | apply below_drew1 | refine below_set ?_ GE311.out | refine below_set ?_ GE312.out) | exact HB.out))) : w.heap.size ≤ gb313)); have n6_ := Aside0.mk ((by rw [hg]; exact Nat.ne_of_lt (blk_lt (g := gb311) (o := .cells #[.int .i64 a1_0, .int .i64 a1_1] 48 (0, 0)) (by (with_reducible repeat (first | refine blk_drewN ?_ _ | refine blk_drew ?_ | refine blk_alloc ?_ _)); exact BK311.out)) : gb311 ≠ gb313)); have n7_ := Aside0.mk ((by rw [hg]; exact Nat.ne_of_gt (blk_lt (g := gb311) (o := .cells #[.int .i64 a1_0, .int .i64 a1_1] 48 (0, 0)) (by (with_reducible repeat (first | refine blk_drewN ?_ _ | refine blk_drew ?_ | refine blk_alloc ?_ _)); exact BK311.out)) : gb313 ≠ gb311)); have n8_ := Aside0.mk ((by rw [hg]; exact Nat.ne_of_lt (blk_lt (g := gb312) (o := .cells #[.int .i64 0, .bool false, .int .i64 0, .string (⟨#[]⟩ : ByteArray)] 42 (0, 0)) (by (with_reducible repeat (first | refine blk_drewN ?_ _ | refine blk_drew ?_ | refine blk_alloc ?_ _)); exact BK312.out)) : gb312 ≠ gb313)); have n9_ := Aside0.mk ((by rw [hg]; exact Nat.ne_of_gt (blk_lt (g := gb312) (o := .cells #[.int .i64 0, .bool false, .int .i64 0, .string (⟨#[]⟩ : ByteArray)] 42 (0, 0)) (by (with_reducible repeat (first | refine blk_drewN ?_ _ | refine blk_drew ?_ | refine blk_alloc ?_ _)); exact BK312.out)) : gb313 ≠ gb312)); clear BK311; clear BK312; clear HB; have BK311 := n0_; have BK312 := n1_; have HB := n2_; have BK313 := n3_; have GW313 := n4_; have GE313 := n5_; have NB311_313 := n6_; have NB313_311 := n7_; have NB312_313 := n8_; have NB313_312 := n9_; clear n0_ n1_ n2_ n3_ n4_ n5_ n6_ n7_ n8_ n9_; clear hb hbox hg; have hnb14 := NB313_311.out; have hnc14 := NB311_313.out; have hnb15 := NB313_312.out; have hnc15 := NB312_313.out; have hcz16_0 : w13.cell? ⟨gb313, 0, none⟩ = some (.int .i64 0) := (blk_cell BK313.out 0).trans rfl; have hcz16_1 : w13.cell? ⟨gb313, 1, none⟩ = some (.bool false) := (blk_cell BK313.out 1).trans rfl; have hcz16_2 : w13.cell? ⟨gb313, 2, none⟩ = some (.int .i64 0) := (blk_cell BK313.out 2).trans rfl; have hcz16_3 : w13.cell? ⟨gb313, 3, none⟩ = some (.string (⟨#[]⟩ : ByteArray)) := (blk_cell BK313.out 3).trans rfl; have hfz16_0 := blk_frozen BK313.out 0; have hfz16_1 := blk_frozen BK313.out 1; have hfz16_2 := blk_frozen BK313.out 2; have hfz16_3 := blk_frozen BK313.out 3))
    go_loopg [6] k (fun kq v6 w' => ∃ (x6_1 : Int) (x314000_1 : Int) (x314001_1 : Bool) (x314002_1 : Int) (x314003_1 : ByteArray), v6 = .int .i64 x6_1 ∧ Aside0 (hayloftref15_agg.l0 kq l0 x6_1 a1_0 a1_1 x314000_1 x314001_1 x314002_1 x314003_1 = some (r1, r2, r3, r4)) ∧ Aside0 (kq ≤ k) ∧ Aside0 (w'.heap[gb311]? = some (.cells #[.int .i64 a1_0, .int .i64 a1_1] 48 (0, 0))) ∧ Aside0 (w'.heap[gb312]? = some (.cells #[.int .i64 0, .bool false, .int .i64 0, .string (⟨#[]⟩ : ByteArray)] 42 (0, 0))) ∧ Aside0 (w'.heap[gb313]? = some (.cells #[.int .i64 x314000_1, .bool x314001_1, .int .i64 x314002_1, .string x314003_1] 42 (0, 0))) ∧ Aside0 (Below w.heap.size w w'))
    case atStart => exact ⟨(0), (0), (false), (0), ((⟨#[]⟩ : ByteArray)), (by first | rfl | (simp; done) | (simp [*]; done)), H', ⟨Nat.le_refl _⟩, ⟨by (with_reducible repeat (first | refine blk_drewN ?_ _ | refine blk_drew ?_ | refine blk_alloc ?_ _)); refine blk_far ?_ NB311_313.out _; (with_reducible repeat (first | refine blk_drewN ?_ _ | refine blk_drew ?_ | refine blk_alloc ?_ _)); refine blk_far ?_ NB311_313.out _; (with_reducible repeat (first | refine blk_drewN ?_ _ | refine blk_drew ?_ | refine blk_alloc ?_ _)); refine blk_far ?_ NB311_313.out _; (with_reducible repeat (first | refine blk_drewN ?_ _ | refine blk_drew ?_ | refine blk_alloc ?_ _)); refine blk_far ?_ NB311_313.out _; (with_reducible repeat (first | refine blk_drewN ?_ _ | refine blk_drew ?_ | refine blk_alloc ?_ _)); exact BK311.out⟩, ⟨by (with_reducible repeat (first | refine blk_drewN ?_ _ | refine blk_drew ?_ | refine blk_alloc ?_ _)); refine blk_far ?_ NB312_313.out _; (with_reducible repeat (first | refine blk_drewN ?_ _ | refine blk_drew ?_ | refine blk_alloc ?_ _)); refine blk_far ?_ NB312_313.out _; (with_reducible repeat (first | refine blk_drewN ?_ _ | refine blk_drew ?_ | refine blk_alloc ?_ _)); refine blk_far ?_ NB312_313.out _; (with_reducible repeat (first | refine blk_drewN ?_ _ | refine blk_drew ?_ | refine blk_alloc ?_ _)); refine blk_far ?_ NB312_313.out _; (with_reducible repeat (first | refine blk_drewN ?_ _ | refine blk_drew ?_ | refine blk_alloc ?_ _)); exact BK312.out⟩, ⟨by (with_reducible repeat (first | refine blk_drewN ?_ _ | refine blk_drew ?_ | refine blk_alloc ?_ _)); refine blk_put (cs := #[.int .i64 0, .bool false, .int .i64 0, .string (⟨#[]⟩ : ByteArray)]) ?_ 3 _ rfl; (with_reducible repeat (first | refine blk_drewN ?_ _ | refine blk_drew ?_ | refine blk_alloc ?_ _)); refine blk_put (cs := #[.int .i64 0, .bool false, .int .i64 0, .string (⟨#[]⟩ : ByteArray)]) ?_ 2 _ rfl; (with_reducible repeat (first | refine blk_drewN ?_ _ | refine blk_drew ?_ | refine blk_alloc ?_ _)); refine blk_put (cs := #[.int .i64 0, .bool false, .int .i64 0, .string (⟨#[]⟩ : ByteArray)]) ?_ 1 _ rfl; (with_reducible repeat (first | refine blk_drewN ?_ _ | refine blk_drew ?_ | refine blk_alloc ?_ _)); refine blk_put (cs := #[.int .i64 0, .bool false, .int .i64 0, .string (⟨#[]⟩ : ByteArray)]) ?_ 0 _ rfl; (with_reducible repeat (first | refine blk_drewN ?_ _ | refine blk_drew ?_ | refine blk_alloc ?_ _)); exact BK313.out⟩, ⟨by repeat (first | (with_reducible first | exact HB.out | apply below_alloc | apply pw_below_drewN | apply below_drew1 | refine below_set ?_ GE311.out | refine below_set ?_ GE312.out | refine below_set ?_ GE313.out) | exact HB.out)⟩⟩
    case round =>
      clear H'
      try clear c1
      try clear p2
      try clear c3
      try clear c3b0
      try clear c3b1
      try clear c4
      try clear c6
      try clear c11
      try clear c14
      try clear c15
      try clear hcz12_0
      try clear hcz12_1
      try clear hcz16_0
      try clear hcz16_1
      try clear hcz16_2
      try clear hcz16_3
      try clear hcz7_0
      try clear hcz7_1
      try clear hcz8_0
      try clear hcz8_1
      try clear hcz8_2
      try clear hcz8_3
      try clear hfz12_0
      try clear hfz12_1
      try clear hfz16_0
      try clear hfz16_1
      try clear hfz16_2
      try clear hfz16_3
      try clear hfz7_0
      try clear hfz7_1
      try clear hfz8_0
      try clear hfz8_1
      try clear hfz8_2
      try clear hfz8_3
      obtain ⟨x6_1, x314000_1, x314001_1, x314002_1, x314003_1, rfl, HA, HK1, BK311, BK312, BK313, HB⟩ := hrel
      cases gk with
      | zero => exact absurd HA.out (by simp [hayloftref15_agg.l0])
      | succ k1 =>
        have H := HA.out
        clear HA
        simp only [hayloftref15_agg.l0] at H
        by_cases c17 : x6_1 < (l0.length : Int)
        · rw [if_pos c17] at H
          have c17b0 : decide (x6_1 < (l0.length : Int)) = true := decide_eq_true c17
          clear c17
          by_cases c18 : 0 ≤ x6_1
          · rw [if_pos c18] at H
            have c18b0 : decide (0 ≤ x6_1) = true := decide_eq_true c18
            clear c18
            replace H := Option.bind_eq_some_iff.mp H
            obtain ⟨⟨t315, t316, t317, t318⟩, A190, H⟩ := H
            replace H : (if a1_0 = 1 then (hayloftref15_agg.j1 k1 l0 x6_1 (t315 == 2) a1_0 a1_1 x314000_1 x314001_1 x314002_1 x314003_1 t315 t316 t317 t318) else (hayloftref15_agg.j1 k1 l0 x6_1 false a1_0 a1_1 x314000_1 x314001_1 x314002_1 x314003_1 t315 t316 t317 t318)) = some (r1, r2, r3, r4) := H
            have A19 := Aside0.mk A190
            clear A190
            have HC20 := Aside0.mk H
            clear H
            try go_wp2
            have n0_ := Aside0.mk (blk_drew BK311.out)
            have n1_ := Aside0.mk (blk_drew BK312.out)
            have n2_ := Aside0.mk (blk_drew BK313.out)
            have n3_ := Aside0.mk (below_drew1 HB.out)
            clear BK311
            clear BK312
            clear BK313
            clear HB
            have BK311 := n0_
            have BK312 := n1_
            have BK313 := n2_
            have HB := n3_
            clear n0_ n1_ n2_ n3_
            have p314 : 0 ≤ (x6_1 : Int) := of_decide_eq_true (by first | (with_reducible assumption) | assumption)
            have q314 : x6_1 < (l0.length : Int) := of_decide_eq_true (by first | (with_reducible assumption) | assumption)
            obtain ⟨ad314, A314_0, c314_0, e314, hx314_0, hl314_0, hi314_0⟩ := at_L4 HR0.out x6_1 p314 q314
            have hw314_0 := hx314_0
            cases e314
            replace hx314_0 := (HB.out.cell (World.block_lt_of_cell? w _ hx314_0)).trans hx314_0
            have HR314_0 := Aside0.mk hi314_0
            have HC314_0 := Aside0.mk hl314_0
            clear hi314_0 hl314_0
            replace p314 := eq_true p314
            replace q314 := eq_true q314
            refine start_ (n := 9) (S := fun w' => w'.cell? ⟨gb311, 0, none⟩ = some (.int .i64 a1_0) ∧ w'.cell? ⟨gb311, 1, none⟩ = some (.int .i64 a1_1) ∧ w'.cell? (ad314.add (x6_1).toNat) = some (.slice A314_0 (rd_L4 l0 x6_1).length c314_0)) (ds := []) #[false, false, false, false, false, false, false, false, false] (by kernel_rfl) rfl rfl ⟨(blk_cell BK311.out 0).trans rfl, (blk_cell BK311.out 1).trans rfl, ((HB.out.cell (World.block_lt_of_cell? w _ hw314_0)).trans hw314_0)⟩ (fun hHeld => ?_); refine with_tabW hayloftref15_agg.tab7 hayloftref15_agg.bits7 (fun HT_ HW_ => ?_)
            generalize wr.drew = w21 at BK311 BK312 BK313 HB HR314_0 hx314_0 hHeld ⊢
            refine pure_ (i := 0) (N := some 21) (v := ?_) (a' := ?_) #[true, false, false, false, false, false, false, false, false] rfl rfl (any_of HT_.out (by kernel_rfl)) (fun _ _ _ h => h) (Or.inl ⟨by rfl, ?_⟩) ?_ ?_
            rotate_left
            · intro w'
              go_simp
              with_reducible rfl
            rotate_left
            · simp only [Act.put, List.setIfInBounds_toArray, List.set_cons_zero, List.set_cons_succ, i64_w, i32_w]
              rfl
            refine pure_ (i := 1) (N := some 22) (v := ?_) (a' := ?_) #[true, true, false, false, false, false, false, false, false] rfl rfl (any_of HT_.out (by kernel_rfl)) (fun _ _ _ h => h) (Or.inl ⟨by rfl, ?_⟩) ?_ ?_
            rotate_left
            · intro w'
              go_simp
              with_reducible rfl
            rotate_left
            · simp only [Act.put, List.setIfInBounds_toArray, List.set_cons_zero, List.set_cons_succ, i64_w, i32_w]
              rfl
            refine pure_ (i := 2) (N := some 23) (v := ?_) (a' := ?_) #[true, true, true, false, false, false, false, false, false] rfl rfl (any_of HT_.out (by kernel_rfl)) (fun _ _ _ h => h) (Or.inl ⟨by rfl, ?_⟩) ?_ ?_
            rotate_left
            · intro w'
              go_simp
              with_reducible rfl
            rotate_left
            · simp only [Act.put, List.setIfInBounds_toArray, List.set_cons_zero, List.set_cons_succ, i64_w, i32_w]
              rfl
            refine pure_ (i := 4) (N := some 25) (v := ?_) (a' := ?_) #[true, true, true, false, true, false, false, false, false] rfl rfl (any_of HT_.out (by kernel_rfl)) (fun _ _ _ h => h) (Or.inl ⟨by rfl, ?_⟩) ?_ ?_
            rotate_left
            · intro w'
              go_simp
              with_reducible rfl
            rotate_left
            · simp only [Act.put, List.setIfInBounds_toArray, List.set_cons_zero, List.set_cons_succ, i64_w, i32_w]
              rfl
            refine take_ (i := 3) (N := some 24) (v := ?_) (a' := ?_) #[true, true, true, true, true, false, false, false, false] rfl rfl (take_ofW HT_.out HW_.out (by kernel_rfl)) (fun _ _ _ h => h) (Or.inl ⟨by rfl, ?_⟩) hHeld ?_ ?_
            rotate_left
            · rintro w' ⟨s0, s1, s2⟩
              go_simp
              with_reducible rfl
            rotate_left
            · simp only [Act.put, List.setIfInBounds_toArray, List.set_cons_zero, List.set_cons_succ, i64_w, i32_w]
              rfl
            refine take_ (i := 5) (N := some 26) (v := ?_) (a' := ?_) #[true, true, true, true, true, true, false, false, false] rfl rfl (take_ofW HT_.out HW_.out (by kernel_rfl)) (fun _ _ _ h => h) (Or.inl ⟨by rfl, ?_⟩) hHeld ?_ ?_
            rotate_left
            · rintro w' ⟨s0, s1, s2⟩
              go_simp
              with_reducible rfl
            rotate_left
            · simp only [Act.put, List.setIfInBounds_toArray, List.set_cons_zero, List.set_cons_succ, i64_w, i32_w]
              rfl
            refine join_ (σ := Nat) 1 #[true, true, true, true, true, true, true, true, false] (fun s_ => [(27, .agg #[.int .i64 t315, .bool t316, .int .i64 t317, .string t318]), (7, .pointer (some ⟨s_, 0, none⟩))]) (fun s_ w' => (w'.cell? ⟨gb311, 0, none⟩ = some (.int .i64 a1_0) ∧ w'.cell? ⟨gb311, 1, none⟩ = some (.int .i64 a1_1) ∧ w'.cell? (ad314.add (x6_1).toNat) = some (.slice A314_0 (rd_L4 l0 x6_1).length c314_0)) ∧ (w'.heap[gb311]? = some (.cells #[.int .i64 a1_0, .int .i64 a1_1] 48 (0, 0))) ∧ (w'.heap[gb312]? = some (.cells #[.int .i64 0, .bool false, .int .i64 0, .string (⟨#[]⟩ : ByteArray)] 42 (0, 0))) ∧ (w'.heap[gb313]? = some (.cells #[.int .i64 x314000_1, .bool x314001_1, .int .i64 x314002_1, .string x314003_1] 42 (0, 0))) ∧ (w'.heap[s_]? = some (.cells #[.int .i64 0, .bool false, .int .i64 0, .string (⟨#[]⟩ : ByteArray)] 42 (0, 0))) ∧ (w.heap.size ≤ s_) ∧ (w.heap.size ≤ s_) ∧ (gb311 ≠ s_) ∧ (s_ ≠ gb311) ∧ (gb312 ≠ s_) ∧ (s_ ≠ gb312) ∧ (gb313 ≠ s_) ∧ (s_ ≠ gb313) ∧ (Below w.heap.size w w')) ?_ ?_
            rotate_left
            · intro hCont
              refine two_ (i := 6) (j := 7) (Ni := some 27) (Nj := some 7) #[true, true, true, true, true, true, true, false, false] #[true, true, true, true, true, true, false, true, false] rfl rfl rfl rfl (two_of HT_.out (by kernel_rfl)) (by decide) (by decide) (fun K hK => ?_) (fun K hK => ?_)
              · skip
                refine goes_ Try.func19 (by kernel_rfl) rfl #[.slice A314_0 (rd_L4 l0 x6_1).length c314_0, .int .i64 a1_1] (by rfl) rfl rfl (by (try simp only [List.map_toArray, List.map_cons, List.map_nil]); first | done | rfl | (simp only [List.length_drop, List.length_take]; rfl)) ?_
                with_reducible refine (hayloftref15_At.calls _ _ (rd_L4 l0 x6_1) a1_1 t315 t316 t317 t318 _ ?side1 ?side2 A19.out).mono ?_
                (case side1 => repeat (first | exact (Kd.C_below HR314_0.out HB.out) | (with_reducible refine Kd.C_alloc ?_ _) | (with_reducible refine Kd.C_drewN ?_ _) | (with_reducible refine Kd.C_drew ?_)))
                (case side2 => exact HC314_0.out)
                rintro e w22 ⟨rfl, hb⟩
                refine ⟨_, rfl, ?_⟩
                have n0_ := Aside0.mk (blk_below (g := gb311) (o := .cells #[.int .i64 a1_0, .int .i64 a1_1] 48 (0, 0)) (by (with_reducible repeat (first | refine blk_drewN ?_ _ | refine blk_drew ?_ | refine blk_alloc ?_ _)); exact BK311.out) hb)
                have n1_ := Aside0.mk (blk_below (g := gb312) (o := .cells #[.int .i64 0, .bool false, .int .i64 0, .string (⟨#[]⟩ : ByteArray)] 42 (0, 0)) (by (with_reducible repeat (first | refine blk_drewN ?_ _ | refine blk_drew ?_ | refine blk_alloc ?_ _)); exact BK312.out) hb)
                have n2_ := Aside0.mk (blk_below (g := gb313) (o := .cells #[.int .i64 x314000_1, .bool x314001_1, .int .i64 x314002_1, .string x314003_1] 42 (0, 0)) (by (with_reducible repeat (first | refine blk_drewN ?_ _ | refine blk_drew ?_ | refine blk_alloc ?_ _)); exact BK313.out) hb)
                have n3_ := Aside0.mk (below_step (by repeat (first | (with_reducible first | exact HB.out | apply below_alloc | apply pw_below_drewN | apply below_drew1 | refine below_set ?_ GE311.out | refine below_set ?_ GE312.out | refine below_set ?_ GE313.out) | exact HB.out)) hb)
                clear BK311
                clear BK312
                clear BK313
                clear HB
                have BK311 := n0_
                have BK312 := n1_
                have BK313 := n2_
                have HB := n3_
                clear n0_ n1_ n2_ n3_
                (try clear hb)
                (try clear hb2)
                (try clear hk)
                (try clear hi)
                refine hK.out _ _ ⟨(blk_cell BK311.out 0).trans rfl, (blk_cell BK311.out 1).trans rfl, ((HB.out.cell (World.block_lt_of_cell? w _ hw314_0)).trans hw314_0)⟩ (fun hHeld => ?_)
                clear hK K
                refine norm_ (a' := ?_) ?_ ?_
                rotate_left
                · show Act.put _ (some 27) _ = _
                  simp only [Act.put, List.setIfInBounds_toArray, List.set_cons_zero, List.set_cons_succ, i64_w, i32_w]
                  rfl
                refine one_ (i := 7) (N := some 7) #[true, true, true, true, true, true, true, true, false] rfl rfl (one_of HT_.out (by kernel_rfl)) (by decide) (fun K hK => ?_)
                refine box_step ?hg (N := 7) ?hd (cs := #[.int .i64 0, .bool false, .int .i64 0, .string (⟨#[]⟩ : ByteArray)]) (t := 42) ?hr ?_; (case hd => rfl); (case hg => rfl); (case hr => first | (go_simp; done) | (go_simp; rfl))
                intro gb319 hg w23 hbox hb
                have n0_ := Aside0.mk (blk_below (g := gb311) (o := .cells #[.int .i64 a1_0, .int .i64 a1_1] 48 (0, 0)) (by (with_reducible repeat (first | refine blk_drewN ?_ _ | refine blk_drew ?_ | refine blk_alloc ?_ _)); exact BK311.out) hb)
                have n1_ := Aside0.mk (blk_below (g := gb312) (o := .cells #[.int .i64 0, .bool false, .int .i64 0, .string (⟨#[]⟩ : ByteArray)] 42 (0, 0)) (by (with_reducible repeat (first | refine blk_drewN ?_ _ | refine blk_drew ?_ | refine blk_alloc ?_ _)); exact BK312.out) hb)
                have n2_ := Aside0.mk (blk_below (g := gb313) (o := .cells #[.int .i64 x314000_1, .bool x314001_1, .int .i64 x314002_1, .string x314003_1] 42 (0, 0)) (by (with_reducible repeat (first | refine blk_drewN ?_ _ | refine blk_drew ?_ | refine blk_alloc ?_ _)); exact BK313.out) hb)
                have n3_ := Aside0.mk (below_step (by repeat (first | (with_reducible first | exact HB.out | apply below_alloc | apply pw_below_drewN | apply below_drew1 | refine below_set ?_ GE311.out | refine below_set ?_ GE312.out | refine below_set ?_ GE313.out) | exact HB.out)) hb)
                have n4_ := Aside0.mk (hbox)
                have n5_ := Aside0.mk ((by rw [hg]; exact (below_size (by repeat (first | (with_reducible first | exact HB.out | apply below_alloc | apply pw_below_drewN | apply below_drew1 | refine below_set ?_ GE311.out | refine below_set ?_ GE312.out | refine below_set ?_ GE313.out) | exact HB.out))) : w.heap.size ≤ gb319))
                have n6_ := Aside0.mk ((by rw [hg]; exact (below_size (by repeat (first | (with_reducible first | exact HB.out | apply below_alloc | apply pw_below_drewN | apply below_drew1 | refine below_set ?_ GE311.out | refine below_set ?_ GE312.out | refine below_set ?_ GE313.out) | exact HB.out))) : w.heap.size ≤ gb319))
                have n7_ := Aside0.mk ((by rw [hg]; exact Nat.ne_of_lt (blk_lt (g := gb311) (o := .cells #[.int .i64 a1_0, .int .i64 a1_1] 48 (0, 0)) (by (with_reducible repeat (first | refine blk_drewN ?_ _ | refine blk_drew ?_ | refine blk_alloc ?_ _)); exact BK311.out)) : gb311 ≠ gb319))
                have n8_ := Aside0.mk ((by rw [hg]; exact Nat.ne_of_gt (blk_lt (g := gb311) (o := .cells #[.int .i64 a1_0, .int .i64 a1_1] 48 (0, 0)) (by (with_reducible repeat (first | refine blk_drewN ?_ _ | refine blk_drew ?_ | refine blk_alloc ?_ _)); exact BK311.out)) : gb319 ≠ gb311))
                have n9_ := Aside0.mk ((by rw [hg]; exact Nat.ne_of_lt (blk_lt (g := gb312) (o := .cells #[.int .i64 0, .bool false, .int .i64 0, .string (⟨#[]⟩ : ByteArray)] 42 (0, 0)) (by (with_reducible repeat (first | refine blk_drewN ?_ _ | refine blk_drew ?_ | refine blk_alloc ?_ _)); exact BK312.out)) : gb312 ≠ gb319))
                have n10_ := Aside0.mk ((by rw [hg]; exact Nat.ne_of_gt (blk_lt (g := gb312) (o := .cells #[.int .i64 0, .bool false, .int .i64 0, .string (⟨#[]⟩ : ByteArray)] 42 (0, 0)) (by (with_reducible repeat (first | refine blk_drewN ?_ _ | refine blk_drew ?_ | refine blk_alloc ?_ _)); exact BK312.out)) : gb319 ≠ gb312))
                have n11_ := Aside0.mk ((by rw [hg]; exact Nat.ne_of_lt (blk_lt (g := gb313) (o := .cells #[.int .i64 x314000_1, .bool x314001_1, .int .i64 x314002_1, .string x314003_1] 42 (0, 0)) (by (with_reducible repeat (first | refine blk_drewN ?_ _ | refine blk_drew ?_ | refine blk_alloc ?_ _)); exact BK313.out)) : gb313 ≠ gb319))
                have n12_ := Aside0.mk ((by rw [hg]; exact Nat.ne_of_gt (blk_lt (g := gb313) (o := .cells #[.int .i64 x314000_1, .bool x314001_1, .int .i64 x314002_1, .string x314003_1] 42 (0, 0)) (by (with_reducible repeat (first | refine blk_drewN ?_ _ | refine blk_drew ?_ | refine blk_alloc ?_ _)); exact BK313.out)) : gb319 ≠ gb313))
                clear BK311
                clear BK312
                clear BK313
                clear HB
                have BK311 := n0_
                have BK312 := n1_
                have BK313 := n2_
                have HB := n3_
                have BK319 := n4_
                have GW319 := n5_
                have GE319 := n6_
                have NB311_319 := n7_
                have NB319_311 := n8_
                have NB312_319 := n9_
                have NB319_312 := n10_
                have NB313_319 := n11_
                have NB319_313 := n12_
                clear n0_ n1_ n2_ n3_ n4_ n5_ n6_ n7_ n8_ n9_ n10_ n11_ n12_
                clear hb hbox hg
                refine hK.out _ _ ⟨(blk_cell BK311.out 0).trans rfl, (blk_cell BK311.out 1).trans rfl, ((HB.out.cell (World.block_lt_of_cell? w _ hw314_0)).trans hw314_0)⟩ (fun hHeld => ?_)
                clear hK K
                refine norm_ (a' := ?_) ?_ ?_
                rotate_left
                · show Act.put _ (some 7) _ = _
                  simp only [Act.put, List.setIfInBounds_toArray, List.set_cons_zero, List.set_cons_succ, i64_w, i32_w]
                  rfl
                exact norm_ (by simp only [putAll, Act.put, List.setIfInBounds_toArray, List.set_cons_zero, List.set_cons_succ]) (hCont (gb319) _ ⟨hHeld, (by (with_reducible repeat (first | refine blk_drewN ?_ _ | refine blk_drew ?_ | refine blk_alloc ?_ _)); exact BK311.out), (by (with_reducible repeat (first | refine blk_drewN ?_ _ | refine blk_drew ?_ | refine blk_alloc ?_ _)); exact BK312.out), (by (with_reducible repeat (first | refine blk_drewN ?_ _ | refine blk_drew ?_ | refine blk_alloc ?_ _)); exact BK313.out), (by (with_reducible repeat (first | refine blk_drewN ?_ _ | refine blk_drew ?_ | refine blk_alloc ?_ _)); exact BK319.out), GW319.out, GE319.out, NB311_319.out, NB319_311.out, NB312_319.out, NB319_312.out, NB313_319.out, NB319_313.out, (by repeat (first | (with_reducible first | exact HB.out | apply below_alloc | apply pw_below_drewN | apply below_drew1 | refine below_set ?_ GE311.out | refine below_set ?_ GE312.out | refine below_set ?_ GE313.out | refine below_set ?_ GE319.out) | exact HB.out))⟩)
              · skip
                refine box_step ?hg (N := 7) ?hd (cs := #[.int .i64 0, .bool false, .int .i64 0, .string (⟨#[]⟩ : ByteArray)]) (t := 42) ?hr ?_; (case hd => rfl); (case hg => rfl); (case hr => first | (go_simp; done) | (go_simp; rfl))
                intro gb319 hg w22 hbox hb
                have n0_ := Aside0.mk (blk_below (g := gb311) (o := .cells #[.int .i64 a1_0, .int .i64 a1_1] 48 (0, 0)) (by (with_reducible repeat (first | refine blk_drewN ?_ _ | refine blk_drew ?_ | refine blk_alloc ?_ _)); exact BK311.out) hb)
                have n1_ := Aside0.mk (blk_below (g := gb312) (o := .cells #[.int .i64 0, .bool false, .int .i64 0, .string (⟨#[]⟩ : ByteArray)] 42 (0, 0)) (by (with_reducible repeat (first | refine blk_drewN ?_ _ | refine blk_drew ?_ | refine blk_alloc ?_ _)); exact BK312.out) hb)
                have n2_ := Aside0.mk (blk_below (g := gb313) (o := .cells #[.int .i64 x314000_1, .bool x314001_1, .int .i64 x314002_1, .string x314003_1] 42 (0, 0)) (by (with_reducible repeat (first | refine blk_drewN ?_ _ | refine blk_drew ?_ | refine blk_alloc ?_ _)); exact BK313.out) hb)
                have n3_ := Aside0.mk (below_step (by repeat (first | (with_reducible first | exact HB.out | apply below_alloc | apply pw_below_drewN | apply below_drew1 | refine below_set ?_ GE311.out | refine below_set ?_ GE312.out | refine below_set ?_ GE313.out) | exact HB.out)) hb)
                have n4_ := Aside0.mk (hbox)
                have n5_ := Aside0.mk ((by rw [hg]; exact (below_size (by repeat (first | (with_reducible first | exact HB.out | apply below_alloc | apply pw_below_drewN | apply below_drew1 | refine below_set ?_ GE311.out | refine below_set ?_ GE312.out | refine below_set ?_ GE313.out) | exact HB.out))) : w.heap.size ≤ gb319))
                have n6_ := Aside0.mk ((by rw [hg]; exact (below_size (by repeat (first | (with_reducible first | exact HB.out | apply below_alloc | apply pw_below_drewN | apply below_drew1 | refine below_set ?_ GE311.out | refine below_set ?_ GE312.out | refine below_set ?_ GE313.out) | exact HB.out))) : w.heap.size ≤ gb319))
                have n7_ := Aside0.mk ((by rw [hg]; exact Nat.ne_of_lt (blk_lt (g := gb311) (o := .cells #[.int .i64 a1_0, .int .i64 a1_1] 48 (0, 0)) (by (with_reducible repeat (first | refine blk_drewN ?_ _ | refine blk_drew ?_ | refine blk_alloc ?_ _)); exact BK311.out)) : gb311 ≠ gb319))
                have n8_ := Aside0.mk ((by rw [hg]; exact Nat.ne_of_gt (blk_lt (g := gb311) (o := .cells #[.int .i64 a1_0, .int .i64 a1_1] 48 (0, 0)) (by (with_reducible repeat (first | refine blk_drewN ?_ _ | refine blk_drew ?_ | refine blk_alloc ?_ _)); exact BK311.out)) : gb319 ≠ gb311))
                have n9_ := Aside0.mk ((by rw [hg]; exact Nat.ne_of_lt (blk_lt (g := gb312) (o := .cells #[.int .i64 0, .bool false, .int .i64 0, .string (⟨#[]⟩ : ByteArray)] 42 (0, 0)) (by (with_reducible repeat (first | refine blk_drewN ?_ _ | refine blk_drew ?_ | refine blk_alloc ?_ _)); exact BK312.out)) : gb312 ≠ gb319))
                have n10_ := Aside0.mk ((by rw [hg]; exact Nat.ne_of_gt (blk_lt (g := gb312) (o := .cells #[.int .i64 0, .bool false, .int .i64 0, .string (⟨#[]⟩ : ByteArray)] 42 (0, 0)) (by (with_reducible repeat (first | refine blk_drewN ?_ _ | refine blk_drew ?_ | refine blk_alloc ?_ _)); exact BK312.out)) : gb319 ≠ gb312))
                have n11_ := Aside0.mk ((by rw [hg]; exact Nat.ne_of_lt (blk_lt (g := gb313) (o := .cells #[.int .i64 x314000_1, .bool x314001_1, .int .i64 x314002_1, .string x314003_1] 42 (0, 0)) (by (with_reducible repeat (first | refine blk_drewN ?_ _ | refine blk_drew ?_ | refine blk_alloc ?_ _)); exact BK313.out)) : gb313 ≠ gb319))
                have n12_ := Aside0.mk ((by rw [hg]; exact Nat.ne_of_gt (blk_lt (g := gb313) (o := .cells #[.int .i64 x314000_1, .bool x314001_1, .int .i64 x314002_1, .string x314003_1] 42 (0, 0)) (by (with_reducible repeat (first | refine blk_drewN ?_ _ | refine blk_drew ?_ | refine blk_alloc ?_ _)); exact BK313.out)) : gb319 ≠ gb313))
                clear BK311
                clear BK312
                clear BK313
                clear HB
                have BK311 := n0_
                have BK312 := n1_
                have BK313 := n2_
                have HB := n3_
                have BK319 := n4_
                have GW319 := n5_
                have GE319 := n6_
                have NB311_319 := n7_
                have NB319_311 := n8_
                have NB312_319 := n9_
                have NB319_312 := n10_
                have NB313_319 := n11_
                have NB319_313 := n12_
                clear n0_ n1_ n2_ n3_ n4_ n5_ n6_ n7_ n8_ n9_ n10_ n11_ n12_
                clear hb hbox hg
                refine hK.out _ _ ⟨(blk_cell BK311.out 0).trans rfl, (blk_cell BK311.out 1).trans rfl, ((HB.out.cell (World.block_lt_of_cell? w _ hw314_0)).trans hw314_0)⟩ (fun hHeld => ?_)
                clear hK K
                refine norm_ (a' := ?_) ?_ ?_
                rotate_left
                · show Act.put _ (some 7) _ = _
                  simp only [Act.put, List.setIfInBounds_toArray, List.set_cons_zero, List.set_cons_succ, i64_w, i32_w]
                  rfl
                refine one_ (i := 6) (N := some 27) #[true, true, true, true, true, true, true, true, false] rfl rfl (one_of HT_.out (by kernel_rfl)) (by decide) (fun K hK => ?_)
                refine goes_ Try.func19 (by kernel_rfl) rfl #[.slice A314_0 (rd_L4 l0 x6_1).length c314_0, .int .i64 a1_1] (by rfl) rfl rfl (by (try simp only [List.map_toArray, List.map_cons, List.map_nil]); first | done | rfl | (simp only [List.length_drop, List.length_take]; rfl)) ?_
                with_reducible refine (hayloftref15_At.calls _ _ (rd_L4 l0 x6_1) a1_1 t315 t316 t317 t318 _ ?side1 ?side2 A19.out).mono ?_
                (case side1 => repeat (first | exact (Kd.C_below HR314_0.out HB.out) | (with_reducible refine Kd.C_alloc ?_ _) | (with_reducible refine Kd.C_drewN ?_ _) | (with_reducible refine Kd.C_drew ?_)))
                (case side2 => exact HC314_0.out)
                rintro e w23 ⟨rfl, hb⟩
                refine ⟨_, rfl, ?_⟩
                have n0_ := Aside0.mk (blk_below (g := gb311) (o := .cells #[.int .i64 a1_0, .int .i64 a1_1] 48 (0, 0)) (by (with_reducible repeat (first | refine blk_drewN ?_ _ | refine blk_drew ?_ | refine blk_alloc ?_ _)); exact BK311.out) hb)
                have n1_ := Aside0.mk (blk_below (g := gb312) (o := .cells #[.int .i64 0, .bool false, .int .i64 0, .string (⟨#[]⟩ : ByteArray)] 42 (0, 0)) (by (with_reducible repeat (first | refine blk_drewN ?_ _ | refine blk_drew ?_ | refine blk_alloc ?_ _)); exact BK312.out) hb)
                have n2_ := Aside0.mk (blk_below (g := gb313) (o := .cells #[.int .i64 x314000_1, .bool x314001_1, .int .i64 x314002_1, .string x314003_1] 42 (0, 0)) (by (with_reducible repeat (first | refine blk_drewN ?_ _ | refine blk_drew ?_ | refine blk_alloc ?_ _)); exact BK313.out) hb)
                have n3_ := Aside0.mk (blk_below (g := gb319) (o := .cells #[.int .i64 0, .bool false, .int .i64 0, .string (⟨#[]⟩ : ByteArray)] 42 (0, 0)) (by (with_reducible repeat (first | refine blk_drewN ?_ _ | refine blk_drew ?_ | refine blk_alloc ?_ _)); exact BK319.out) hb)
                have n4_ := Aside0.mk (below_step (by repeat (first | (with_reducible first | exact HB.out | apply below_alloc | apply pw_below_drewN | apply below_drew1 | refine below_set ?_ GE311.out | refine below_set ?_ GE312.out | refine below_set ?_ GE313.out | refine below_set ?_ GE319.out) | exact HB.out)) hb)
                clear BK311
                clear BK312
                clear BK313
                clear BK319
                clear HB
                have BK311 := n0_
                have BK312 := n1_
                have BK313 := n2_
                have BK319 := n3_
                have HB := n4_
                clear n0_ n1_ n2_ n3_ n4_
                (try clear hb)
                (try clear hb2)
                (try clear hk)
                (try clear hi)
                refine hK.out _ _ ⟨(blk_cell BK311.out 0).trans rfl, (blk_cell BK311.out 1).trans rfl, ((HB.out.cell (World.block_lt_of_cell? w _ hw314_0)).trans hw314_0)⟩ (fun hHeld => ?_)
                clear hK K
                refine norm_ (a' := ?_) ?_ ?_
                rotate_left
                · show Act.put _ (some 27) _ = _
                  simp only [Act.put, List.setIfInBounds_toArray, List.set_cons_zero, List.set_cons_succ, i64_w, i32_w]
                  rfl
                exact norm_ (by simp only [putAll, Act.put, List.setIfInBounds_toArray, List.set_cons_zero, List.set_cons_succ]) (hCont (gb319) _ ⟨hHeld, (by (with_reducible repeat (first | refine blk_drewN ?_ _ | refine blk_drew ?_ | refine blk_alloc ?_ _)); exact BK311.out), (by (with_reducible repeat (first | refine blk_drewN ?_ _ | refine blk_drew ?_ | refine blk_alloc ?_ _)); exact BK312.out), (by (with_reducible repeat (first | refine blk_drewN ?_ _ | refine blk_drew ?_ | refine blk_alloc ?_ _)); exact BK313.out), (by (with_reducible repeat (first | refine blk_drewN ?_ _ | refine blk_drew ?_ | refine blk_alloc ?_ _)); exact BK319.out), GW319.out, GE319.out, NB311_319.out, NB319_311.out, NB312_319.out, NB319_312.out, NB313_319.out, NB319_313.out, (by repeat (first | (with_reducible first | exact HB.out | apply below_alloc | apply pw_below_drewN | apply below_drew1 | refine below_set ?_ GE311.out | refine below_set ?_ GE312.out | refine below_set ?_ GE313.out | refine below_set ?_ GE319.out) | exact HB.out))⟩)
            rintro gb319 w24 ⟨hS_, h0_, h1_, h2_, h3_, h4_, h5_, h6_, h7_, h8_, h9_, h10_, h11_, h12_⟩
            have n0_ : Aside0 (w24.heap[gb311]? = some (.cells #[.int .i64 a1_0, .int .i64 a1_1] 48 (0, 0))) := ⟨h0_⟩
            have n1_ : Aside0 (w24.heap[gb312]? = some (.cells #[.int .i64 0, .bool false, .int .i64 0, .string (⟨#[]⟩ : ByteArray)] 42 (0, 0))) := ⟨h1_⟩
            have n2_ : Aside0 (w24.heap[gb313]? = some (.cells #[.int .i64 x314000_1, .bool x314001_1, .int .i64 x314002_1, .string x314003_1] 42 (0, 0))) := ⟨h2_⟩
            have n3_ : Aside0 (w24.heap[gb319]? = some (.cells #[.int .i64 0, .bool false, .int .i64 0, .string (⟨#[]⟩ : ByteArray)] 42 (0, 0))) := ⟨h3_⟩
            have n4_ : Aside0 (w.heap.size ≤ gb319) := ⟨h4_⟩
            have n5_ : Aside0 (w.heap.size ≤ gb319) := ⟨h5_⟩
            have n6_ : Aside0 (gb311 ≠ gb319) := ⟨h6_⟩
            have n7_ : Aside0 (gb319 ≠ gb311) := ⟨h7_⟩
            have n8_ : Aside0 (gb312 ≠ gb319) := ⟨h8_⟩
            have n9_ : Aside0 (gb319 ≠ gb312) := ⟨h9_⟩
            have n10_ : Aside0 (gb313 ≠ gb319) := ⟨h10_⟩
            have n11_ : Aside0 (gb319 ≠ gb313) := ⟨h11_⟩
            have n12_ : Aside0 (Below w.heap.size w w24) := ⟨h12_⟩
            clear BK311
            clear BK312
            clear BK313
            clear HB
            clear h0_ h1_ h2_ h3_ h4_ h5_ h6_ h7_ h8_ h9_ h10_ h11_ h12_
            have BK311 := n0_
            have BK312 := n1_
            have BK313 := n2_
            have BK319 := n3_
            have GW319 := n4_
            have GE319 := n5_
            have NB311_319 := n6_
            have NB319_311 := n7_
            have NB312_319 := n8_
            have NB319_312 := n9_
            have NB313_319 := n10_
            have NB319_313 := n11_
            have HB := n12_
            clear n0_ n1_ n2_ n3_ n4_ n5_ n6_ n7_ n8_ n9_ n10_ n11_ n12_
            have hHeld : w24.cell? ⟨gb311, 0, none⟩ = some (.int .i64 a1_0) ∧ w24.cell? ⟨gb311, 1, none⟩ = some (.int .i64 a1_1) ∧ w24.cell? (ad314.add (x6_1).toNat) = some (.slice A314_0 (rd_L4 l0 x6_1).length c314_0) := hS_
            refine norm_ (a' := ?_) ?_ ?_
            rotate_left
            · simp only [putAll, Act.put, List.setIfInBounds_toArray, List.set_cons_zero, List.set_cons_succ]
              rfl
            refine one_ (i := 8) (N := none) #[true, true, true, true, true, true, true, true, true] rfl rfl (one_of HT_.out (by kernel_rfl)) (by decide) (fun K hK => ?_)
            have hs25 : w24.cell? ⟨gb319, 0, none⟩ = some (.int .i64 0) := (blk_cell BK319.out 0).trans rfl
            have hfs25 := blk_frozen BK319.out 0
            have hns25_0 := NB311_319.out
            have hns25_1 := NB312_319.out
            have hns25_2 := NB313_319.out
            have hms25_0 := NB319_311.out
            have hms25_1 := NB319_312.out
            have hms25_2 := NB319_313.out
            have hs26 : w24.cell? ⟨gb319, 1, none⟩ = some (.bool false) := (blk_cell BK319.out 1).trans rfl
            have hfs26 := blk_frozen BK319.out 1
            have hns26_0 := NB311_319.out
            have hns26_1 := NB312_319.out
            have hns26_2 := NB313_319.out
            have hms26_0 := NB319_311.out
            have hms26_1 := NB319_312.out
            have hms26_2 := NB319_313.out
            have hs27 : w24.cell? ⟨gb319, 2, none⟩ = some (.int .i64 0) := (blk_cell BK319.out 2).trans rfl
            have hfs27 := blk_frozen BK319.out 2
            have hns27_0 := NB311_319.out
            have hns27_1 := NB312_319.out
            have hns27_2 := NB313_319.out
            have hms27_0 := NB319_311.out
            have hms27_1 := NB319_312.out
            have hms27_2 := NB319_313.out
            have hs28 : w24.cell? ⟨gb319, 3, none⟩ = some (.string (⟨#[]⟩ : ByteArray)) := (blk_cell BK319.out 3).trans rfl
            have hfs28 := blk_frozen BK319.out 3
            have hns28_0 := NB311_319.out
            have hns28_1 := NB312_319.out
            have hns28_2 := NB313_319.out
            have hms28_0 := NB319_311.out
            have hms28_1 := NB319_312.out
            have hms28_2 := NB319_313.out
            refine skip_ (w1 := ?_) (by rfl) rfl ?_ ?_
            rotate_left
            · go_simp
              rfl
            refine hK.out _ _ ⟨((cell_far (p := ⟨gb319, _, none⟩) NB311_319.out _).trans (((cell_far (p := ⟨gb319, _, none⟩) NB311_319.out _).trans (((cell_far (p := ⟨gb319, _, none⟩) NB311_319.out _).trans (((cell_far (p := ⟨gb319, _, none⟩) NB311_319.out _).trans (hHeld.1)))))))), ((cell_far (p := ⟨gb319, _, none⟩) NB311_319.out _).trans (((cell_far (p := ⟨gb319, _, none⟩) NB311_319.out _).trans (((cell_far (p := ⟨gb319, _, none⟩) NB311_319.out _).trans (((cell_far (p := ⟨gb319, _, none⟩) NB311_319.out _).trans (hHeld.2.1)))))))), ((cell_far (p := ⟨gb319, _, none⟩) (by first | exact Nat.ne_of_lt (Nat.lt_of_lt_of_le (by have := World.block_lt_of_cell? _ _ hw314_0; first | rwa [add_block] at this | exact this) GW319.out) | (rw [add_block]; exact Nat.ne_of_lt (Nat.lt_of_lt_of_le (by have := World.block_lt_of_cell? _ _ hw314_0; first | rwa [add_block] at this | exact this) GW319.out)) | (show (Addr.add _ _).block ≠ _; rw [add_block]; exact Nat.ne_of_lt (Nat.lt_of_lt_of_le (by have := World.block_lt_of_cell? _ _ hw314_0; first | rwa [add_block] at this | exact this) GW319.out)) | (dsimp only; exact Nat.ne_of_lt (Nat.lt_of_lt_of_le (by have := World.block_lt_of_cell? _ _ hw314_0; first | rwa [add_block] at this | exact this) GW319.out))) _).trans (((cell_far (p := ⟨gb319, _, none⟩) (by first | exact Nat.ne_of_lt (Nat.lt_of_lt_of_le (by have := World.block_lt_of_cell? _ _ hw314_0; first | rwa [add_block] at this | exact this) GW319.out) | (rw [add_block]; exact Nat.ne_of_lt (Nat.lt_of_lt_of_le (by have := World.block_lt_of_cell? _ _ hw314_0; first | rwa [add_block] at this | exact this) GW319.out)) | (show (Addr.add _ _).block ≠ _; rw [add_block]; exact Nat.ne_of_lt (Nat.lt_of_lt_of_le (by have := World.block_lt_of_cell? _ _ hw314_0; first | rwa [add_block] at this | exact this) GW319.out)) | (dsimp only; exact Nat.ne_of_lt (Nat.lt_of_lt_of_le (by have := World.block_lt_of_cell? _ _ hw314_0; first | rwa [add_block] at this | exact this) GW319.out))) _).trans (((cell_far (p := ⟨gb319, _, none⟩) (by first | exact Nat.ne_of_lt (Nat.lt_of_lt_of_le (by have := World.block_lt_of_cell? _ _ hw314_0; first | rwa [add_block] at this | exact this) GW319.out) | (rw [add_block]; exact Nat.ne_of_lt (Nat.lt_of_lt_of_le (by have := World.block_lt_of_cell? _ _ hw314_0; first | rwa [add_block] at this | exact this) GW319.out)) | (show (Addr.add _ _).block ≠ _; rw [add_block]; exact Nat.ne_of_lt (Nat.lt_of_lt_of_le (by have := World.block_lt_of_cell? _ _ hw314_0; first | rwa [add_block] at this | exact this) GW319.out)) | (dsimp only; exact Nat.ne_of_lt (Nat.lt_of_lt_of_le (by have := World.block_lt_of_cell? _ _ hw314_0; first | rwa [add_block] at this | exact this) GW319.out))) _).trans (((cell_far (p := ⟨gb319, _, none⟩) (by first | exact Nat.ne_of_lt (Nat.lt_of_lt_of_le (by have := World.block_lt_of_cell? _ _ hw314_0; first | rwa [add_block] at this | exact this) GW319.out) | (rw [add_block]; exact Nat.ne_of_lt (Nat.lt_of_lt_of_le (by have := World.block_lt_of_cell? _ _ hw314_0; first | rwa [add_block] at this | exact this) GW319.out)) | (show (Addr.add _ _).block ≠ _; rw [add_block]; exact Nat.ne_of_lt (Nat.lt_of_lt_of_le (by have := World.block_lt_of_cell? _ _ hw314_0; first | rwa [add_block] at this | exact this) GW319.out)) | (dsimp only; exact Nat.ne_of_lt (Nat.lt_of_lt_of_le (by have := World.block_lt_of_cell? _ _ hw314_0; first | rwa [add_block] at this | exact this) GW319.out))) _).trans (hHeld.2.2))))))))⟩ (fun hHeld => ?_)
            clear hK K
            refine done_ (done_of HT_.out (by kernel_rfl)) ?_
            go_upto_region 8 with (fail)
            go_cut [35] (fun v35 wc => ∃ (kq : Nat) (x35_19 : Bool), v35 = .bool x35_19 ∧ Aside0 (hayloftref15_agg.j1 kq l0 x6_1 x35_19 a1_0 a1_1 x314000_1 x314001_1 x314002_1 x314003_1 t315 t316 t317 t318 = some (r1, r2, r3, r4)) ∧ Aside0 (kq ≤ k1) ∧ Aside0 (wc.heap[gb311]? = some (.cells #[.int .i64 a1_0, .int .i64 a1_1] 48 (0, 0))) ∧ Aside0 (wc.heap[gb312]? = some (.cells #[.int .i64 0, .bool false, .int .i64 0, .string (⟨#[]⟩ : ByteArray)] 42 (0, 0))) ∧ Aside0 (wc.heap[gb313]? = some (.cells #[.int .i64 x314000_1, .bool x314001_1, .int .i64 x314002_1, .string x314003_1] 42 (0, 0))) ∧ Aside0 (wc.heap[gb319]? = some (.cells #[.int .i64 t315, .bool t316, .int .i64 t317, .string t318] 42 (0, 0))) ∧ Aside0 (Below w.heap.size w wc))
            case first =>
              have H := HC20.out
              clear HC20
              by_cases c29 : a1_0 = 1
              · rw [if_pos c29] at H
                have c29b0 : (a1_0 == 1) = true := beq_iff_eq.mpr c29
                have c29b1 : (a1_0 != 1) = false := bne_eq_false_iff_eq.mpr c29
                clear c29
                (first | rw [c29b0] | (simp only [i64_w, i32_w]; rw [c29b0]) | skip)
                have H' := Aside0.mk H
                clear H
                have hnb30 := NB311_312.out
                have hnc30 := NB312_311.out
                have hnb31 := NB311_313.out
                have hnc31 := NB313_311.out
                have hnb32 := NB311_319.out
                have hnc32 := NB319_311.out
                have hcz33_0 : w24.cell? ⟨gb311, 0, none⟩ = some (.int .i64 a1_0) := (blk_cell BK311.out 0).trans rfl
                have hcz33_1 : w24.cell? ⟨gb311, 1, none⟩ = some (.int .i64 a1_1) := (blk_cell BK311.out 1).trans rfl
                have hfz33_0 := blk_frozen BK311.out 0
                have hfz33_1 := blk_frozen BK311.out 1
                have hnb34 := NB319_312.out
                have hnc34 := NB312_319.out
                have hnb35 := NB319_313.out
                have hnc35 := NB313_319.out
                have hcz36_0 : w24.cell? ⟨gb319, 0, none⟩ = some (.int .i64 0) := (blk_cell BK319.out 0).trans rfl
                have hcz36_1 : w24.cell? ⟨gb319, 1, none⟩ = some (.bool false) := (blk_cell BK319.out 1).trans rfl
                have hcz36_2 : w24.cell? ⟨gb319, 2, none⟩ = some (.int .i64 0) := (blk_cell BK319.out 2).trans rfl
                have hcz36_3 : w24.cell? ⟨gb319, 3, none⟩ = some (.string (⟨#[]⟩ : ByteArray)) := (blk_cell BK319.out 3).trans rfl
                have hfz36_0 := blk_frozen BK319.out 0
                have hfz36_1 := blk_frozen BK319.out 1
                have hfz36_2 := blk_frozen BK319.out 2
                have hfz36_3 := blk_frozen BK319.out 3
                go_wp2
                go_meet
                case rel => exact ⟨_, ((t315 == 2)), (by first | rfl | (simp; done) | (simp [*]; done)), H', ⟨by have := HK1.out; first | omega | exact Nat.le_refl _⟩, ⟨by (with_reducible repeat (first | refine blk_drewN ?_ _ | refine blk_drew ?_ | refine blk_alloc ?_ _)); refine blk_far ?_ NB311_319.out _; (with_reducible repeat (first | refine blk_drewN ?_ _ | refine blk_drew ?_ | refine blk_alloc ?_ _)); refine blk_far ?_ NB311_319.out _; (with_reducible repeat (first | refine blk_drewN ?_ _ | refine blk_drew ?_ | refine blk_alloc ?_ _)); refine blk_far ?_ NB311_319.out _; (with_reducible repeat (first | refine blk_drewN ?_ _ | refine blk_drew ?_ | refine blk_alloc ?_ _)); refine blk_far ?_ NB311_319.out _; (with_reducible repeat (first | refine blk_drewN ?_ _ | refine blk_drew ?_ | refine blk_alloc ?_ _)); exact BK311.out⟩, ⟨by (with_reducible repeat (first | refine blk_drewN ?_ _ | refine blk_drew ?_ | refine blk_alloc ?_ _)); refine blk_far ?_ NB312_319.out _; (with_reducible repeat (first | refine blk_drewN ?_ _ | refine blk_drew ?_ | refine blk_alloc ?_ _)); refine blk_far ?_ NB312_319.out _; (with_reducible repeat (first | refine blk_drewN ?_ _ | refine blk_drew ?_ | refine blk_alloc ?_ _)); refine blk_far ?_ NB312_319.out _; (with_reducible repeat (first | refine blk_drewN ?_ _ | refine blk_drew ?_ | refine blk_alloc ?_ _)); refine blk_far ?_ NB312_319.out _; (with_reducible repeat (first | refine blk_drewN ?_ _ | refine blk_drew ?_ | refine blk_alloc ?_ _)); exact BK312.out⟩, ⟨by (with_reducible repeat (first | refine blk_drewN ?_ _ | refine blk_drew ?_ | refine blk_alloc ?_ _)); refine blk_far ?_ NB313_319.out _; (with_reducible repeat (first | refine blk_drewN ?_ _ | refine blk_drew ?_ | refine blk_alloc ?_ _)); refine blk_far ?_ NB313_319.out _; (with_reducible repeat (first | refine blk_drewN ?_ _ | refine blk_drew ?_ | refine blk_alloc ?_ _)); refine blk_far ?_ NB313_319.out _; (with_reducible repeat (first | refine blk_drewN ?_ _ | refine blk_drew ?_ | refine blk_alloc ?_ _)); refine blk_far ?_ NB313_319.out _; (with_reducible repeat (first | refine blk_drewN ?_ _ | refine blk_drew ?_ | refine blk_alloc ?_ _)); exact BK313.out⟩, ⟨by (with_reducible repeat (first | refine blk_drewN ?_ _ | refine blk_drew ?_ | refine blk_alloc ?_ _)); refine blk_put (cs := #[.int .i64 t315, .bool t316, .int .i64 t317, .string (⟨#[]⟩ : ByteArray)]) ?_ 3 _ rfl; (with_reducible repeat (first | refine blk_drewN ?_ _ | refine blk_drew ?_ | refine blk_alloc ?_ _)); refine blk_put (cs := #[.int .i64 t315, .bool t316, .int .i64 0, .string (⟨#[]⟩ : ByteArray)]) ?_ 2 _ rfl; (with_reducible repeat (first | refine blk_drewN ?_ _ | refine blk_drew ?_ | refine blk_alloc ?_ _)); refine blk_put (cs := #[.int .i64 t315, .bool false, .int .i64 0, .string (⟨#[]⟩ : ByteArray)]) ?_ 1 _ rfl; (with_reducible repeat (first | refine blk_drewN ?_ _ | refine blk_drew ?_ | refine blk_alloc ?_ _)); refine blk_put (cs := #[.int .i64 0, .bool false, .int .i64 0, .string (⟨#[]⟩ : ByteArray)]) ?_ 0 _ rfl; (with_reducible repeat (first | refine blk_drewN ?_ _ | refine blk_drew ?_ | refine blk_alloc ?_ _)); exact BK319.out⟩, ⟨by repeat (first | (with_reducible first | exact HB.out | apply below_alloc | apply pw_below_drewN | apply below_drew1 | refine below_set ?_ GE311.out | refine below_set ?_ GE312.out | refine below_set ?_ GE313.out | refine below_set ?_ GE319.out) | exact HB.out)⟩⟩
              · rw [if_neg c29] at H
                have c29b0 : (a1_0 == 1) = false := beq_eq_false_iff_ne.mpr c29
                have c29b1 : (a1_0 != 1) = true := bne_iff_ne.mpr c29
                (first | rw [c29b0] | (simp only [i64_w, i32_w]; rw [c29b0]) | skip)
                have H' := Aside0.mk H
                clear H
                have hnb37 := NB311_312.out
                have hnc37 := NB312_311.out
                have hnb38 := NB311_313.out
                have hnc38 := NB313_311.out
                have hnb39 := NB311_319.out
                have hnc39 := NB319_311.out
                have hcz40_0 : w24.cell? ⟨gb311, 0, none⟩ = some (.int .i64 a1_0) := (blk_cell BK311.out 0).trans rfl
                have hcz40_1 : w24.cell? ⟨gb311, 1, none⟩ = some (.int .i64 a1_1) := (blk_cell BK311.out 1).trans rfl
                have hfz40_0 := blk_frozen BK311.out 0
                have hfz40_1 := blk_frozen BK311.out 1
                go_wp2
                go_meet
                case rel => exact ⟨_, (false), (by first | rfl | (simp; done) | (simp [*]; done)), H', ⟨by have := HK1.out; first | omega | exact Nat.le_refl _⟩, ⟨by (with_reducible repeat (first | refine blk_drewN ?_ _ | refine blk_drew ?_ | refine blk_alloc ?_ _)); refine blk_far ?_ NB311_319.out _; (with_reducible repeat (first | refine blk_drewN ?_ _ | refine blk_drew ?_ | refine blk_alloc ?_ _)); refine blk_far ?_ NB311_319.out _; (with_reducible repeat (first | refine blk_drewN ?_ _ | refine blk_drew ?_ | refine blk_alloc ?_ _)); refine blk_far ?_ NB311_319.out _; (with_reducible repeat (first | refine blk_drewN ?_ _ | refine blk_drew ?_ | refine blk_alloc ?_ _)); refine blk_far ?_ NB311_319.out _; (with_reducible repeat (first | refine blk_drewN ?_ _ | refine blk_drew ?_ | refine blk_alloc ?_ _)); exact BK311.out⟩, ⟨by (with_reducible repeat (first | refine blk_drewN ?_ _ | refine blk_drew ?_ | refine blk_alloc ?_ _)); refine blk_far ?_ NB312_319.out _; (with_reducible repeat (first | refine blk_drewN ?_ _ | refine blk_drew ?_ | refine blk_alloc ?_ _)); refine blk_far ?_ NB312_319.out _; (with_reducible repeat (first | refine blk_drewN ?_ _ | refine blk_drew ?_ | refine blk_alloc ?_ _)); refine blk_far ?_ NB312_319.out _; (with_reducible repeat (first | refine blk_drewN ?_ _ | refine blk_drew ?_ | refine blk_alloc ?_ _)); refine blk_far ?_ NB312_319.out _; (with_reducible repeat (first | refine blk_drewN ?_ _ | refine blk_drew ?_ | refine blk_alloc ?_ _)); exact BK312.out⟩, ⟨by (with_reducible repeat (first | refine blk_drewN ?_ _ | refine blk_drew ?_ | refine blk_alloc ?_ _)); refine blk_far ?_ NB313_319.out _; (with_reducible repeat (first | refine blk_drewN ?_ _ | refine blk_drew ?_ | refine blk_alloc ?_ _)); refine blk_far ?_ NB313_319.out _; (with_reducible repeat (first | refine blk_drewN ?_ _ | refine blk_drew ?_ | refine blk_alloc ?_ _)); refine blk_far ?_ NB313_319.out _; (with_reducible repeat (first | refine blk_drewN ?_ _ | refine blk_drew ?_ | refine blk_alloc ?_ _)); refine blk_far ?_ NB313_319.out _; (with_reducible repeat (first | refine blk_drewN ?_ _ | refine blk_drew ?_ | refine blk_alloc ?_ _)); exact BK313.out⟩, ⟨by (with_reducible repeat (first | refine blk_drewN ?_ _ | refine blk_drew ?_ | refine blk_alloc ?_ _)); refine blk_put (cs := #[.int .i64 t315, .bool t316, .int .i64 t317, .string (⟨#[]⟩ : ByteArray)]) ?_ 3 _ rfl; (with_reducible repeat (first | refine blk_drewN ?_ _ | refine blk_drew ?_ | refine blk_alloc ?_ _)); refine blk_put (cs := #[.int .i64 t315, .bool t316, .int .i64 0, .string (⟨#[]⟩ : ByteArray)]) ?_ 2 _ rfl; (with_reducible repeat (first | refine blk_drewN ?_ _ | refine blk_drew ?_ | refine blk_alloc ?_ _)); refine blk_put (cs := #[.int .i64 t315, .bool false, .int .i64 0, .string (⟨#[]⟩ : ByteArray)]) ?_ 1 _ rfl; (with_reducible repeat (first | refine blk_drewN ?_ _ | refine blk_drew ?_ | refine blk_alloc ?_ _)); refine blk_put (cs := #[.int .i64 0, .bool false, .int .i64 0, .string (⟨#[]⟩ : ByteArray)]) ?_ 0 _ rfl; (with_reducible repeat (first | refine blk_drewN ?_ _ | refine blk_drew ?_ | refine blk_alloc ?_ _)); exact BK319.out⟩, ⟨by repeat (first | (with_reducible first | exact HB.out | apply below_alloc | apply pw_below_drewN | apply below_drew1 | refine below_set ?_ GE311.out | refine below_set ?_ GE312.out | refine below_set ?_ GE313.out | refine below_set ?_ GE319.out) | exact HB.out)⟩⟩
            case rest =>
              clear HC20
              try clear c1
              try clear c2
              try clear p2
              try clear c3
              try clear c3b0
              try clear c3b1
              try clear p3
              try clear q3
              try clear hx3
              try clear c4
              try clear c6
              try clear c11
              try clear c14
              try clear c15
              try clear c17
              try clear c17b0
              try clear c18
              try clear c18b0
              try clear c19
              try clear c29
              try clear c29b0
              try clear c29b1
              try clear c30
              try clear c31
              try clear p31
              try clear q31
              try clear hx31
              try clear c32
              try clear c34
              try clear c35
              try clear c37
              try clear c38
              try clear c39
              try clear hcz12_0
              try clear hcz12_1
              try clear hcz16_0
              try clear hcz16_1
              try clear hcz16_2
              try clear hcz16_3
              try clear hcz33_0
              try clear hcz33_1
              try clear hcz36_0
              try clear hcz36_1
              try clear hcz36_2
              try clear hcz36_3
              try clear hcz40_0
              try clear hcz40_1
              try clear hcz7_0
              try clear hcz7_1
              try clear hcz8_0
              try clear hcz8_1
              try clear hcz8_2
              try clear hcz8_3
              try clear hfz12_0
              try clear hfz12_1
              try clear hfz16_0
              try clear hfz16_1
              try clear hfz16_2
              try clear hfz16_3
              try clear hfz33_0
              try clear hfz33_1
              try clear hfz36_0
              try clear hfz36_1
              try clear hfz36_2
              try clear hfz36_3
              try clear hfz40_0
              try clear hfz40_1
              try clear hfz7_0
              try clear hfz7_1
              try clear hfz8_0
              try clear hfz8_1
              try clear hfz8_2
              try clear hfz8_3
              try clear hx314_0
              try clear p2
              try clear p314
              try clear q314
              obtain ⟨kq, x35_19, rfl, HA, HJ19, BK311, BK312, BK313, BK319, HB⟩ := hcut
              cases kq with
              | zero => exact absurd HA.out (by simp [hayloftref15_agg.j1])
              | succ kj19 =>
                have H := HA.out
                clear HA
                simp only [hayloftref15_agg.j1] at H
                have HC41 := Aside0.mk H
                clear H
                go_upto_if 35 with (fail)
                go_cut [] (fun wc => ∃ (kq : Nat) (x314000_40 : Int) (x314001_40 : Bool) (x314002_40 : Int) (x314003_40 : ByteArray), Aside0 (hayloftref15_agg.j2 kq l0 x6_1 a1_0 a1_1 x314000_40 x314001_40 x314002_40 x314003_40 t315 t316 t317 t318 = some (r1, r2, r3, r4)) ∧ Aside0 (kq ≤ kj19) ∧ Aside0 (wc.heap[gb311]? = some (.cells #[.int .i64 a1_0, .int .i64 a1_1] 48 (0, 0))) ∧ Aside0 (wc.heap[gb312]? = some (.cells #[.int .i64 0, .bool false, .int .i64 0, .string (⟨#[]⟩ : ByteArray)] 42 (0, 0))) ∧ Aside0 (wc.heap[gb313]? = some (.cells #[.int .i64 x314000_40, .bool x314001_40, .int .i64 x314002_40, .string x314003_40] 42 (0, 0))) ∧ Aside0 (wc.heap[gb319]? = some (.cells #[.int .i64 t315, .bool t316, .int .i64 t317, .string t318] 42 (0, 0))) ∧ Aside0 (Below w.heap.size w wc))
                case first =>
                  have H := HC41.out
                  clear HC41
                  by_cases c42 : x35_19 = true
                  · subst c42
                    have H1 : (hayloftref15_agg.j2 kj19 l0 x6_1 a1_0 a1_1 2 false (wrap64 (x314002_1 + t317)) (⟨#[]⟩ : ByteArray) t315 t316 t317 t318) = some (r1, r2, r3, r4) := by rw [if_pos rfl] at H; exact H
                    clear H
                    have H := H1
                    clear H1
                    have H' := Aside0.mk H
                    clear H
                    have hnb43 := NB313_311.out
                    have hnc43 := NB311_313.out
                    have hnb44 := NB313_312.out
                    have hnc44 := NB312_313.out
                    have hnb45 := NB313_319.out
                    have hnc45 := NB319_313.out
                    have hcz46_0 : wc.cell? ⟨gb313, 0, none⟩ = some (.int .i64 x314000_1) := (blk_cell BK313.out 0).trans rfl
                    have hcz46_1 : wc.cell? ⟨gb313, 1, none⟩ = some (.bool x314001_1) := (blk_cell BK313.out 1).trans rfl
                    have hcz46_2 : wc.cell? ⟨gb313, 2, none⟩ = some (.int .i64 x314002_1) := (blk_cell BK313.out 2).trans rfl
                    have hcz46_3 : wc.cell? ⟨gb313, 3, none⟩ = some (.string x314003_1) := (blk_cell BK313.out 3).trans rfl
                    have hfz46_0 := blk_frozen BK313.out 0
                    have hfz46_1 := blk_frozen BK313.out 1
                    have hfz46_2 := blk_frozen BK313.out 2
                    have hfz46_3 := blk_frozen BK313.out 3
                    have hnb47 := NB319_311.out
                    have hnc47 := NB311_319.out
                    have hnb48 := NB319_312.out
                    have hnc48 := NB312_319.out
                    have hcz49_0 : wc.cell? ⟨gb319, 0, none⟩ = some (.int .i64 t315) := (blk_cell BK319.out 0).trans rfl
                    have hcz49_1 : wc.cell? ⟨gb319, 1, none⟩ = some (.bool t316) := (blk_cell BK319.out 1).trans rfl
                    have hcz49_2 : wc.cell? ⟨gb319, 2, none⟩ = some (.int .i64 t317) := (blk_cell BK319.out 2).trans rfl
                    have hcz49_3 : wc.cell? ⟨gb319, 3, none⟩ = some (.string t318) := (blk_cell BK319.out 3).trans rfl
                    have hfz49_0 := blk_frozen BK319.out 0
                    have hfz49_1 := blk_frozen BK319.out 1
                    have hfz49_2 := blk_frozen BK319.out 2
                    have hfz49_3 := blk_frozen BK319.out 3
                    go_wp2
                    go_meet
                    case rel => exact ⟨_, (2), (false), (wrap64 (x314002_1 + t317)), ((⟨#[]⟩ : ByteArray)), H', ⟨by have := HK1.out; have := HJ19.out; first | omega | exact Nat.le_refl _⟩, ⟨by (with_reducible repeat (first | refine blk_drewN ?_ _ | refine blk_drew ?_ | refine blk_alloc ?_ _)); refine blk_far ?_ NB311_313.out _; (with_reducible repeat (first | refine blk_drewN ?_ _ | refine blk_drew ?_ | refine blk_alloc ?_ _)); refine blk_far ?_ NB311_313.out _; (with_reducible repeat (first | refine blk_drewN ?_ _ | refine blk_drew ?_ | refine blk_alloc ?_ _)); refine blk_far ?_ NB311_313.out _; (with_reducible repeat (first | refine blk_drewN ?_ _ | refine blk_drew ?_ | refine blk_alloc ?_ _)); refine blk_far ?_ NB311_313.out _; (with_reducible repeat (first | refine blk_drewN ?_ _ | refine blk_drew ?_ | refine blk_alloc ?_ _)); exact BK311.out⟩, ⟨by (with_reducible repeat (first | refine blk_drewN ?_ _ | refine blk_drew ?_ | refine blk_alloc ?_ _)); refine blk_far ?_ NB312_313.out _; (with_reducible repeat (first | refine blk_drewN ?_ _ | refine blk_drew ?_ | refine blk_alloc ?_ _)); refine blk_far ?_ NB312_313.out _; (with_reducible repeat (first | refine blk_drewN ?_ _ | refine blk_drew ?_ | refine blk_alloc ?_ _)); refine blk_far ?_ NB312_313.out _; (with_reducible repeat (first | refine blk_drewN ?_ _ | refine blk_drew ?_ | refine blk_alloc ?_ _)); refine blk_far ?_ NB312_313.out _; (with_reducible repeat (first | refine blk_drewN ?_ _ | refine blk_drew ?_ | refine blk_alloc ?_ _)); exact BK312.out⟩, ⟨by (with_reducible repeat (first | refine blk_drewN ?_ _ | refine blk_drew ?_ | refine blk_alloc ?_ _)); refine blk_put (cs := #[.int .i64 2, .bool false, .int .i64 (wrap64 (x314002_1 + t317)), .string x314003_1]) ?_ 3 _ rfl; (with_reducible repeat (first | refine blk_drewN ?_ _ | refine blk_drew ?_ | refine blk_alloc ?_ _)); refine blk_put (cs := #[.int .i64 2, .bool false, .int .i64 x314002_1, .string x314003_1]) ?_ 2 _ rfl; (with_reducible repeat (first | refine blk_drewN ?_ _ | refine blk_drew ?_ | refine blk_alloc ?_ _)); refine blk_put (cs := #[.int .i64 2, .bool x314001_1, .int .i64 x314002_1, .string x314003_1]) ?_ 1 _ rfl; (with_reducible repeat (first | refine blk_drewN ?_ _ | refine blk_drew ?_ | refine blk_alloc ?_ _)); refine blk_put (cs := #[.int .i64 x314000_1, .bool x314001_1, .int .i64 x314002_1, .string x314003_1]) ?_ 0 _ rfl; (with_reducible repeat (first | refine blk_drewN ?_ _ | refine blk_drew ?_ | refine blk_alloc ?_ _)); exact BK313.out⟩, ⟨by (with_reducible repeat (first | refine blk_drewN ?_ _ | refine blk_drew ?_ | refine blk_alloc ?_ _)); refine blk_far ?_ NB319_313.out _; (with_reducible repeat (first | refine blk_drewN ?_ _ | refine blk_drew ?_ | refine blk_alloc ?_ _)); refine blk_far ?_ NB319_313.out _; (with_reducible repeat (first | refine blk_drewN ?_ _ | refine blk_drew ?_ | refine blk_alloc ?_ _)); refine blk_far ?_ NB319_313.out _; (with_reducible repeat (first | refine blk_drewN ?_ _ | refine blk_drew ?_ | refine blk_alloc ?_ _)); refine blk_far ?_ NB319_313.out _; (with_reducible repeat (first | refine blk_drewN ?_ _ | refine blk_drew ?_ | refine blk_alloc ?_ _)); exact BK319.out⟩, ⟨by repeat (first | (with_reducible first | exact HB.out | apply below_alloc | apply pw_below_drewN | apply below_drew1 | refine below_set ?_ GE311.out | refine below_set ?_ GE312.out | refine below_set ?_ GE313.out | refine below_set ?_ GE319.out) | exact HB.out)⟩⟩
                  · replace c42 := Bool.eq_false_iff.mpr c42
                    subst c42
                    have H1 : (hayloftref15_agg.j2 kj19 l0 x6_1 a1_0 a1_1 x314000_1 x314001_1 x314002_1 x314003_1 t315 t316 t317 t318) = some (r1, r2, r3, r4) := by rw [if_neg (show ¬ (false = true) by decide)] at H; exact H
                    clear H
                    have H := H1
                    clear H1
                    have H' := Aside0.mk H
                    clear H
                    go_wp2
                    go_meet
                    case rel => exact ⟨_, (x314000_1), (x314001_1), (x314002_1), (x314003_1), H', ⟨by have := HK1.out; have := HJ19.out; first | omega | exact Nat.le_refl _⟩, ⟨by (with_reducible repeat (first | refine blk_drewN ?_ _ | refine blk_drew ?_ | refine blk_alloc ?_ _)); exact BK311.out⟩, ⟨by (with_reducible repeat (first | refine blk_drewN ?_ _ | refine blk_drew ?_ | refine blk_alloc ?_ _)); exact BK312.out⟩, ⟨by (with_reducible repeat (first | refine blk_drewN ?_ _ | refine blk_drew ?_ | refine blk_alloc ?_ _)); exact BK313.out⟩, ⟨by (with_reducible repeat (first | refine blk_drewN ?_ _ | refine blk_drew ?_ | refine blk_alloc ?_ _)); exact BK319.out⟩, ⟨by repeat (first | (with_reducible first | exact HB.out | apply below_alloc | apply pw_below_drewN | apply below_drew1 | refine below_set ?_ GE311.out | refine below_set ?_ GE312.out | refine below_set ?_ GE313.out | refine below_set ?_ GE319.out) | exact HB.out)⟩⟩
                case rest =>
                  clear HC41
                  try clear c1
                  try clear c2
                  try clear p2
                  try clear c3
                  try clear c3b0
                  try clear c3b1
                  try clear p3
                  try clear q3
                  try clear hx3
                  try clear c4
                  try clear c6
                  try clear p6
                  try clear c11
                  try clear c14
                  try clear c15
                  try clear c17
                  try clear c17b0
                  try clear c18
                  try clear c18b0
                  try clear c19
                  try clear c29
                  try clear c29b0
                  try clear c29b1
                  try clear c30
                  try clear c31
                  try clear p31
                  try clear q31
                  try clear hx31
                  try clear c32
                  try clear c34
                  try clear c35
                  try clear c37
                  try clear c38
                  try clear c39
                  try clear c42
                  try clear c43
                  try clear c44
                  try clear c45
                  try clear c47
                  try clear c48
                  try clear hcz12_0
                  try clear hcz12_1
                  try clear hcz16_0
                  try clear hcz16_1
                  try clear hcz16_2
                  try clear hcz16_3
                  try clear hcz33_0
                  try clear hcz33_1
                  try clear hcz36_0
                  try clear hcz36_1
                  try clear hcz36_2
                  try clear hcz36_3
                  try clear hcz40_0
                  try clear hcz40_1
                  try clear hcz46_0
                  try clear hcz46_1
                  try clear hcz46_2
                  try clear hcz46_3
                  try clear hcz49_0
                  try clear hcz49_1
                  try clear hcz49_2
                  try clear hcz49_3
                  try clear hcz7_0
                  try clear hcz7_1
                  try clear hcz8_0
                  try clear hcz8_1
                  try clear hcz8_2
                  try clear hcz8_3
                  try clear hfz12_0
                  try clear hfz12_1
                  try clear hfz16_0
                  try clear hfz16_1
                  try clear hfz16_2
                  try clear hfz16_3
                  try clear hfz33_0
                  try clear hfz33_1
                  try clear hfz36_0
                  try clear hfz36_1
                  try clear hfz36_2
                  try clear hfz36_3
                  try clear hfz40_0
                  try clear hfz40_1
                  try clear hfz46_0
                  try clear hfz46_1
                  try clear hfz46_2
                  try clear hfz46_3
                  try clear hfz49_0
                  try clear hfz49_1
                  try clear hfz49_2
                  try clear hfz49_3
                  try clear hfz7_0
                  try clear hfz7_1
                  try clear hfz8_0
                  try clear hfz8_1
                  try clear hfz8_2
                  try clear hfz8_3
                  try clear hx314_0
                  try clear p2
                  try clear p3
                  try clear p31
                  try clear p314
                  try clear q3
                  try clear q31
                  try clear q314
                  obtain ⟨kq, x314000_40, x314001_40, x314002_40, x314003_40, HA, HJ40, BK311, BK312, BK313, BK319, HB⟩ := hcut
                  cases kq with
                  | zero => exact absurd HA.out (by simp [hayloftref15_agg.j2])
                  | succ kj40 =>
                    have H := HA.out
                    clear HA
                    simp only [hayloftref15_agg.j2] at H
                    by_cases c50 : t315 = 0
                    · rw [if_pos c50] at H
                      have c50b0 : (t315 == 0) = true := beq_iff_eq.mpr c50
                      have c50b1 : (t315 != 0) = false := bne_eq_false_iff_eq.mpr c50
                      clear c50
                      have H' := Aside0.mk H
                      clear H
                      have hnb51 := NB319_311.out
                      have hnc51 := NB311_319.out
                      have hnb52 := NB319_312.out
                      have hnc52 := NB312_319.out
                      have hnb53 := NB319_313.out
                      have hnc53 := NB313_319.out
                      have hcz54_0 : wc.cell? ⟨gb319, 0, none⟩ = some (.int .i64 t315) := (blk_cell BK319.out 0).trans rfl
                      have hcz54_1 : wc.cell? ⟨gb319, 1, none⟩ = some (.bool t316) := (blk_cell BK319.out 1).trans rfl
                      have hcz54_2 : wc.cell? ⟨gb319, 2, none⟩ = some (.int .i64 t317) := (blk_cell BK319.out 2).trans rfl
                      have hcz54_3 : wc.cell? ⟨gb319, 3, none⟩ = some (.string t318) := (blk_cell BK319.out 3).trans rfl
                      have hfz54_0 := blk_frozen BK319.out 0
                      have hfz54_1 := blk_frozen BK319.out 1
                      have hfz54_2 := blk_frozen BK319.out 2
                      have hfz54_3 := blk_frozen BK319.out 3
                      go_wp2
                      go_roundg kj40
                      case measure => have := HK1.out; have := HJ19.out; have := HJ40.out; omega
                      case rel => exact ⟨(wrap64 (x6_1 + 1)), (x314000_40), (x314001_40), (x314002_40), (x314003_40), (by first | rfl | (simp; done) | (simp [*]; done)), H', ⟨by have := HK1.out; have := HJ19.out; have := HJ40.out; omega⟩, ⟨by (with_reducible repeat (first | refine blk_drewN ?_ _ | refine blk_drew ?_ | refine blk_alloc ?_ _)); exact BK311.out⟩, ⟨by (with_reducible repeat (first | refine blk_drewN ?_ _ | refine blk_drew ?_ | refine blk_alloc ?_ _)); exact BK312.out⟩, ⟨by (with_reducible repeat (first | refine blk_drewN ?_ _ | refine blk_drew ?_ | refine blk_alloc ?_ _)); exact BK313.out⟩, ⟨by repeat (first | (with_reducible first | exact HB.out | apply below_alloc | apply pw_below_drewN | apply below_drew1 | refine below_set ?_ GE311.out | refine below_set ?_ GE312.out | refine below_set ?_ GE313.out | refine below_set ?_ GE319.out) | exact HB.out)⟩⟩
                    · rw [if_neg c50] at H
                      have c50b0 : (t315 == 0) = false := beq_eq_false_iff_ne.mpr c50
                      have c50b1 : (t315 != 0) = true := bne_iff_ne.mpr c50
                      have HC55 := Aside0.mk H
                      clear H
                      have hnb56 := NB319_311.out
                      have hnc56 := NB311_319.out
                      have hnb57 := NB319_312.out
                      have hnc57 := NB312_319.out
                      have hnb58 := NB319_313.out
                      have hnc58 := NB313_319.out
                      have hcz59_0 : wc.cell? ⟨gb319, 0, none⟩ = some (.int .i64 t315) := (blk_cell BK319.out 0).trans rfl
                      have hcz59_1 : wc.cell? ⟨gb319, 1, none⟩ = some (.bool t316) := (blk_cell BK319.out 1).trans rfl
                      have hcz59_2 : wc.cell? ⟨gb319, 2, none⟩ = some (.int .i64 t317) := (blk_cell BK319.out 2).trans rfl
                      have hcz59_3 : wc.cell? ⟨gb319, 3, none⟩ = some (.string t318) := (blk_cell BK319.out 3).trans rfl
                      have hfz59_0 := blk_frozen BK319.out 0
                      have hfz59_1 := blk_frozen BK319.out 1
                      have hfz59_2 := blk_frozen BK319.out 2
                      have hfz59_3 := blk_frozen BK319.out 3
                      go_upto_region 11 with (fail)
                      go_cut [58] (fun v58 wc => ∃ (kq : Nat) (x58_54 : Bool), v58 = .bool x58_54 ∧ Aside0 (hayloftref15_agg.j3 kq l0 x6_1 x58_54 a1_0 a1_1 x314000_40 x314001_40 x314002_40 x314003_40 t315 t316 t317 t318 = some (r1, r2, r3, r4)) ∧ Aside0 (kq ≤ kj40) ∧ Aside0 (wc.heap[gb311]? = some (.cells #[.int .i64 a1_0, .int .i64 a1_1] 48 (0, 0))) ∧ Aside0 (wc.heap[gb312]? = some (.cells #[.int .i64 0, .bool false, .int .i64 0, .string (⟨#[]⟩ : ByteArray)] 42 (0, 0))) ∧ Aside0 (wc.heap[gb313]? = some (.cells #[.int .i64 x314000_40, .bool x314001_40, .int .i64 x314002_40, .string x314003_40] 42 (0, 0))) ∧ Aside0 (wc.heap[gb319]? = some (.cells #[.int .i64 t315, .bool t316, .int .i64 t317, .string t318] 42 (0, 0))) ∧ Aside0 (Below w.heap.size w wc))
                      case first =>
                        have H := HC55.out
                        clear HC55
                        by_cases c60 : a1_0 = 2
                        · rw [if_pos c60] at H
                          have c60b0 : (a1_0 == 2) = true := beq_iff_eq.mpr c60
                          have c60b1 : (a1_0 != 2) = false := bne_eq_false_iff_eq.mpr c60
                          clear c60
                          (first | rw [c60b0] | (simp only [i64_w, i32_w]; rw [c60b0]) | skip)
                          by_cases c61 : x314000_40 = 0
                          · rw [if_pos c61] at H
                            have c61b0 : (x314000_40 == 0) = true := beq_iff_eq.mpr c61
                            have c61b1 : (x314000_40 != 0) = false := bne_eq_false_iff_eq.mpr c61
                            clear c61
                            have H' := Aside0.mk H
                            clear H
                            have hnb62 := NB311_312.out
                            have hnc62 := NB312_311.out
                            have hnb63 := NB311_313.out
                            have hnc63 := NB313_311.out
                            have hnb64 := NB311_319.out
                            have hnc64 := NB319_311.out
                            have hcz65_0 : wc.cell? ⟨gb311, 0, none⟩ = some (.int .i64 a1_0) := (blk_cell BK311.out 0).trans rfl
                            have hcz65_1 : wc.cell? ⟨gb311, 1, none⟩ = some (.int .i64 a1_1) := (blk_cell BK311.out 1).trans rfl
                            have hfz65_0 := blk_frozen BK311.out 0
                            have hfz65_1 := blk_frozen BK311.out 1
                            have hnb66 := NB313_312.out
                            have hnc66 := NB312_313.out
                            have hnb67 := NB313_319.out
                            have hnc67 := NB319_313.out
                            have hcz68_0 : wc.cell? ⟨gb313, 0, none⟩ = some (.int .i64 x314000_40) := (blk_cell BK313.out 0).trans rfl
                            have hcz68_1 : wc.cell? ⟨gb313, 1, none⟩ = some (.bool x314001_40) := (blk_cell BK313.out 1).trans rfl
                            have hcz68_2 : wc.cell? ⟨gb313, 2, none⟩ = some (.int .i64 x314002_40) := (blk_cell BK313.out 2).trans rfl
                            have hcz68_3 : wc.cell? ⟨gb313, 3, none⟩ = some (.string x314003_40) := (blk_cell BK313.out 3).trans rfl
                            have hfz68_0 := blk_frozen BK313.out 0
                            have hfz68_1 := blk_frozen BK313.out 1
                            have hfz68_2 := blk_frozen BK313.out 2
                            have hfz68_3 := blk_frozen BK313.out 3
                            go_wp2
                            go_meet
                            case rel => exact ⟨_, (true), (by first | rfl | (simp; done) | (simp [*]; done)), H', ⟨by have := HK1.out; have := HJ19.out; have := HJ40.out; first | omega | exact Nat.le_refl _⟩, ⟨by (with_reducible repeat (first | refine blk_drewN ?_ _ | refine blk_drew ?_ | refine blk_alloc ?_ _)); exact BK311.out⟩, ⟨by (with_reducible repeat (first | refine blk_drewN ?_ _ | refine blk_drew ?_ | refine blk_alloc ?_ _)); exact BK312.out⟩, ⟨by (with_reducible repeat (first | refine blk_drewN ?_ _ | refine blk_drew ?_ | refine blk_alloc ?_ _)); exact BK313.out⟩, ⟨by (with_reducible repeat (first | refine blk_drewN ?_ _ | refine blk_drew ?_ | refine blk_alloc ?_ _)); exact BK319.out⟩, ⟨by repeat (first | (with_reducible first | exact HB.out | apply below_alloc | apply pw_below_drewN | apply below_drew1 | refine below_set ?_ GE311.out | refine below_set ?_ GE312.out | refine below_set ?_ GE313.out | refine below_set ?_ GE319.out) | exact HB.out)⟩⟩
                          · rw [if_neg c61] at H
                            have c61b0 : (x314000_40 == 0) = false := beq_eq_false_iff_ne.mpr c61
                            have c61b1 : (x314000_40 != 0) = true := bne_iff_ne.mpr c61
                            replace H := Option.bind_eq_some_iff.mp H
                            obtain ⟨t320, A690, H⟩ := H
                            replace H : (hayloftref15_agg.j3 kj40 l0 x6_1 (decide (t320 < 0)) a1_0 a1_1 x314000_40 x314001_40 x314002_40 x314003_40 t315 t316 t317 t318) = some (r1, r2, r3, r4) := H
                            have A69 := Aside0.mk A690
                            clear A690
                            have H' := Aside0.mk H
                            clear H
                            have hnb70 := NB311_312.out
                            have hnc70 := NB312_311.out
                            have hnb71 := NB311_313.out
                            have hnc71 := NB313_311.out
                            have hnb72 := NB311_319.out
                            have hnc72 := NB319_311.out
                            have hcz73_0 : wc.cell? ⟨gb311, 0, none⟩ = some (.int .i64 a1_0) := (blk_cell BK311.out 0).trans rfl
                            have hcz73_1 : wc.cell? ⟨gb311, 1, none⟩ = some (.int .i64 a1_1) := (blk_cell BK311.out 1).trans rfl
                            have hfz73_0 := blk_frozen BK311.out 0
                            have hfz73_1 := blk_frozen BK311.out 1
                            have hnb74 := NB313_312.out
                            have hnc74 := NB312_313.out
                            have hnb75 := NB313_319.out
                            have hnc75 := NB319_313.out
                            have hcz76_0 : wc.cell? ⟨gb313, 0, none⟩ = some (.int .i64 x314000_40) := (blk_cell BK313.out 0).trans rfl
                            have hcz76_1 : wc.cell? ⟨gb313, 1, none⟩ = some (.bool x314001_40) := (blk_cell BK313.out 1).trans rfl
                            have hcz76_2 : wc.cell? ⟨gb313, 2, none⟩ = some (.int .i64 x314002_40) := (blk_cell BK313.out 2).trans rfl
                            have hcz76_3 : wc.cell? ⟨gb313, 3, none⟩ = some (.string x314003_40) := (blk_cell BK313.out 3).trans rfl
                            have hfz76_0 := blk_frozen BK313.out 0
                            have hfz76_1 := blk_frozen BK313.out 1
                            have hfz76_2 := blk_frozen BK313.out 2
                            have hfz76_3 := blk_frozen BK313.out 3
                            have hnb77 := NB319_312.out
                            have hnc77 := NB312_319.out
                            have hcz78_0 : wc.cell? ⟨gb319, 0, none⟩ = some (.int .i64 t315) := (blk_cell BK319.out 0).trans rfl
                            have hcz78_1 : wc.cell? ⟨gb319, 1, none⟩ = some (.bool t316) := (blk_cell BK319.out 1).trans rfl
                            have hcz78_2 : wc.cell? ⟨gb319, 2, none⟩ = some (.int .i64 t317) := (blk_cell BK319.out 2).trans rfl
                            have hcz78_3 : wc.cell? ⟨gb319, 3, none⟩ = some (.string t318) := (blk_cell BK319.out 3).trans rfl
                            have hfz78_0 := blk_frozen BK319.out 0
                            have hfz78_1 := blk_frozen BK319.out 1
                            have hfz78_2 := blk_frozen BK319.out 2
                            have hfz78_3 := blk_frozen BK319.out 3
                            go_wp2_with (first | (go_at_call 20; (with_reducible refine (hayloftref02_Compare.calls t315 t316 t317 t318 x314000_40 x314001_40 x314002_40 x314003_40 t320 _ A69.out).mono ?_); rintro e w79 ⟨rfl, hb⟩; have n0_ := Aside0.mk (blk_below (g := gb311) (o := .cells #[.int .i64 a1_0, .int .i64 a1_1] 48 (0, 0)) (by (with_reducible repeat (first | refine blk_drewN ?_ _ | refine blk_drew ?_ | refine blk_alloc ?_ _)); exact BK311.out) hb); have n1_ := Aside0.mk (blk_below (g := gb312) (o := .cells #[.int .i64 0, .bool false, .int .i64 0, .string (⟨#[]⟩ : ByteArray)] 42 (0, 0)) (by (with_reducible repeat (first | refine blk_drewN ?_ _ | refine blk_drew ?_ | refine blk_alloc ?_ _)); exact BK312.out) hb); have n2_ := Aside0.mk (blk_below (g := gb313) (o := .cells #[.int .i64 x314000_40, .bool x314001_40, .int .i64 x314002_40, .string x314003_40] 42 (0, 0)) (by (with_reducible repeat (first | refine blk_drewN ?_ _ | refine blk_drew ?_ | refine blk_alloc ?_ _)); exact BK313.out) hb); have n3_ := Aside0.mk (blk_below (g := gb319) (o := .cells #[.int .i64 t315, .bool t316, .int .i64 t317, .string t318] 42 (0, 0)) (by (with_reducible repeat (first | refine blk_drewN ?_ _ | refine blk_drew ?_ | refine blk_alloc ?_ _)); exact BK319.out) hb); have n4_ := Aside0.mk (below_step (by repeat (first | (with_reducible first | exact HB.out | apply below_alloc | apply pw_below_drewN | apply below_drew1 | refine below_set ?_ GE311.out | refine below_set ?_ GE312.out | refine below_set ?_ GE313.out | refine below_set ?_ GE319.out) | exact HB.out)) hb); clear BK311; clear BK312; clear BK313; clear BK319; clear HB; have BK311 := n0_; have BK312 := n1_; have BK313 := n2_; have BK319 := n3_; have HB := n4_; clear n0_ n1_ n2_ n3_ n4_; (try clear hb); (try clear hb2); (try clear hk); (try clear hi)))
                            go_meet
                            case rel => exact ⟨_, (decide (t320 < 0)), (by first | rfl | (simp; done) | (simp [*]; done)), H', ⟨by have := HK1.out; have := HJ19.out; have := HJ40.out; first | omega | exact Nat.le_refl _⟩, ⟨by (with_reducible repeat (first | refine blk_drewN ?_ _ | refine blk_drew ?_ | refine blk_alloc ?_ _)); exact BK311.out⟩, ⟨by (with_reducible repeat (first | refine blk_drewN ?_ _ | refine blk_drew ?_ | refine blk_alloc ?_ _)); exact BK312.out⟩, ⟨by (with_reducible repeat (first | refine blk_drewN ?_ _ | refine blk_drew ?_ | refine blk_alloc ?_ _)); exact BK313.out⟩, ⟨by (with_reducible repeat (first | refine blk_drewN ?_ _ | refine blk_drew ?_ | refine blk_alloc ?_ _)); exact BK319.out⟩, ⟨by repeat (first | (with_reducible first | exact HB.out | apply below_alloc | apply pw_below_drewN | apply below_drew1 | refine below_set ?_ GE311.out | refine below_set ?_ GE312.out | refine below_set ?_ GE313.out | refine below_set ?_ GE319.out) | exact HB.out)⟩⟩
                        · rw [if_neg c60] at H
                          have c60b0 : (a1_0 == 2) = false := beq_eq_false_iff_ne.mpr c60
                          have c60b1 : (a1_0 != 2) = true := bne_iff_ne.mpr c60
                          (first | rw [c60b0] | (simp only [i64_w, i32_w]; rw [c60b0]) | skip)
                          have H' := Aside0.mk H
                          clear H
                          have hnb80 := NB311_312.out
                          have hnc80 := NB312_311.out
                          have hnb81 := NB311_313.out
                          have hnc81 := NB313_311.out
                          have hnb82 := NB311_319.out
                          have hnc82 := NB319_311.out
                          have hcz83_0 : wc.cell? ⟨gb311, 0, none⟩ = some (.int .i64 a1_0) := (blk_cell BK311.out 0).trans rfl
                          have hcz83_1 : wc.cell? ⟨gb311, 1, none⟩ = some (.int .i64 a1_1) := (blk_cell BK311.out 1).trans rfl
                          have hfz83_0 := blk_frozen BK311.out 0
                          have hfz83_1 := blk_frozen BK311.out 1
                          go_wp2
                          go_meet
                          case rel => exact ⟨_, (false), (by first | rfl | (simp; done) | (simp [*]; done)), H', ⟨by have := HK1.out; have := HJ19.out; have := HJ40.out; first | omega | exact Nat.le_refl _⟩, ⟨by (with_reducible repeat (first | refine blk_drewN ?_ _ | refine blk_drew ?_ | refine blk_alloc ?_ _)); exact BK311.out⟩, ⟨by (with_reducible repeat (first | refine blk_drewN ?_ _ | refine blk_drew ?_ | refine blk_alloc ?_ _)); exact BK312.out⟩, ⟨by (with_reducible repeat (first | refine blk_drewN ?_ _ | refine blk_drew ?_ | refine blk_alloc ?_ _)); exact BK313.out⟩, ⟨by (with_reducible repeat (first | refine blk_drewN ?_ _ | refine blk_drew ?_ | refine blk_alloc ?_ _)); exact BK319.out⟩, ⟨by repeat (first | (with_reducible first | exact HB.out | apply below_alloc | apply pw_below_drewN | apply below_drew1 | refine below_set ?_ GE311.out | refine below_set ?_ GE312.out | refine below_set ?_ GE313.out | refine below_set ?_ GE319.out) | exact HB.out)⟩⟩
                      case rest =>
                        clear HC55
                        try clear c1
                        try clear c2
                        try clear p2
                        try clear c3
                        try clear c3b0
                        try clear c3b1
                        try clear p3
                        try clear q3
                        try clear hx3
                        try clear c4
                        try clear c5
                        try clear c6
                        try clear p6
                        try clear c7
                        try clear c8
                        try clear c11
                        try clear c14
                        try clear c15
                        try clear c17
                        try clear c17b0
                        try clear c18
                        try clear c18b0
                        try clear c19
                        try clear c29
                        try clear c29b0
                        try clear c29b1
                        try clear c30
                        try clear c31
                        try clear p31
                        try clear q31
                        try clear hx31
                        try clear c32
                        try clear c34
                        try clear c35
                        try clear c37
                        try clear c38
                        try clear c39
                        try clear c42
                        try clear c43
                        try clear c44
                        try clear c45
                        try clear c47
                        try clear c48
                        try clear c50
                        try clear c50b0
                        try clear c50b1
                        try clear c51
                        try clear c52
                        try clear c53
                        try clear c56
                        try clear c57
                        try clear c58
                        try clear c60
                        try clear c60b0
                        try clear c60b1
                        try clear c61
                        try clear c61b0
                        try clear c61b1
                        try clear c62
                        try clear c63
                        try clear c64
                        try clear p64
                        try clear c66
                        try clear c67
                        try clear c70
                        try clear c71
                        try clear c72
                        try clear c74
                        try clear c75
                        try clear c77
                        try clear c80
                        try clear c81
                        try clear c82
                        try clear hcz12_0
                        try clear hcz12_1
                        try clear hcz16_0
                        try clear hcz16_1
                        try clear hcz16_2
                        try clear hcz16_3
                        try clear hcz33_0
                        try clear hcz33_1
                        try clear hcz36_0
                        try clear hcz36_1
                        try clear hcz36_2
                        try clear hcz36_3
                        try clear hcz40_0
                        try clear hcz40_1
                        try clear hcz46_0
                        try clear hcz46_1
                        try clear hcz46_2
                        try clear hcz46_3
                        try clear hcz49_0
                        try clear hcz49_1
                        try clear hcz49_2
                        try clear hcz49_3
                        try clear hcz54_0
                        try clear hcz54_1
                        try clear hcz54_2
                        try clear hcz54_3
                        try clear hcz59_0
                        try clear hcz59_1
                        try clear hcz59_2
                        try clear hcz59_3
                        try clear hcz65_0
                        try clear hcz65_1
                        try clear hcz68_0
                        try clear hcz68_1
                        try clear hcz68_2
                        try clear hcz68_3
                        try clear hcz73_0
                        try clear hcz73_1
                        try clear hcz76_0
                        try clear hcz76_1
                        try clear hcz76_2
                        try clear hcz76_3
                        try clear hcz78_0
                        try clear hcz78_1
                        try clear hcz78_2
                        try clear hcz78_3
                        try clear hcz7_0
                        try clear hcz7_1
                        try clear hcz83_0
                        try clear hcz83_1
                        try clear hcz8_0
                        try clear hcz8_1
                        try clear hcz8_2
                        try clear hcz8_3
                        try clear hfz12_0
                        try clear hfz12_1
                        try clear hfz16_0
                        try clear hfz16_1
                        try clear hfz16_2
                        try clear hfz16_3
                        try clear hfz33_0
                        try clear hfz33_1
                        try clear hfz36_0
                        try clear hfz36_1
                        try clear hfz36_2
                        try clear hfz36_3
                        try clear hfz40_0
                        try clear hfz40_1
                        try clear hfz46_0
                        try clear hfz46_1
                        try clear hfz46_2
                        try clear hfz46_3
                        try clear hfz49_0
                        try clear hfz49_1
                        try clear hfz49_2
                        try clear hfz49_3
                        try clear hfz54_0
                        try clear hfz54_1
                        try clear hfz54_2
                        try clear hfz54_3
                        try clear hfz59_0
                        try clear hfz59_1
                        try clear hfz59_2
                        try clear hfz59_3
                        try clear hfz65_0
                        try clear hfz65_1
                        try clear hfz68_0
                        try clear hfz68_1
                        try clear hfz68_2
                        try clear hfz68_3
                        try clear hfz73_0
                        try clear hfz73_1
                        try clear hfz76_0
                        try clear hfz76_1
                        try clear hfz76_2
                        try clear hfz76_3
                        try clear hfz78_0
                        try clear hfz78_1
                        try clear hfz78_2
                        try clear hfz78_3
                        try clear hfz7_0
                        try clear hfz7_1
                        try clear hfz83_0
                        try clear hfz83_1
                        try clear hfz8_0
                        try clear hfz8_1
                        try clear hfz8_2
                        try clear hfz8_3
                        try clear hx314_0
                        try clear p2
                        try clear p3
                        try clear p31
                        try clear p314
                        try clear p6
                        try clear q3
                        try clear q31
                        try clear q314
                        obtain ⟨kq, x58_54, rfl, HA, HJ54, BK311, BK312, BK313, BK319, HB⟩ := hcut
                        cases kq with
                        | zero => exact absurd HA.out (by simp [hayloftref15_agg.j3])
                        | succ kj54 =>
                          have H := HA.out
                          clear HA
                          simp only [hayloftref15_agg.j3] at H
                          by_cases c84 : x58_54 = true
                          · subst c84
                            have H1 : (if a1_0 = 3 then (if t315 = 0 then (hayloftref15_agg.l0 kj54 l0 (wrap64 (x6_1 + 1)) a1_0 a1_1 t315 t316 t317 t318) else ((hayloftref02_Compare.f t315 t316 t317 t318 t315 t316 t317 t318).bind fun t321 => (if t321 > 0 then (hayloftref15_agg.l0 kj54 l0 (wrap64 (x6_1 + 1)) a1_0 a1_1 t315 t316 t317 t318) else (hayloftref15_agg.l0 kj54 l0 (wrap64 (x6_1 + 1)) a1_0 a1_1 t315 t316 t317 t318)))) else (hayloftref15_agg.l0 kj54 l0 (wrap64 (x6_1 + 1)) a1_0 a1_1 t315 t316 t317 t318)) = some (r1, r2, r3, r4) := by rw [if_pos rfl] at H; exact H
                            clear H
                            have H := H1
                            clear H1
                            by_cases c85 : a1_0 = 3
                            · rw [if_pos c85] at H
                              have c85b0 : (a1_0 == 3) = true := beq_iff_eq.mpr c85
                              have c85b1 : (a1_0 != 3) = false := bne_eq_false_iff_eq.mpr c85
                              clear c85
                              by_cases c86 : t315 = 0
                              · rw [if_pos c86] at H
                                have c86b0 : (t315 == 0) = true := beq_iff_eq.mpr c86
                                have c86b1 : (t315 != 0) = false := bne_eq_false_iff_eq.mpr c86
                                clear c86
                                have H' := Aside0.mk H
                                clear H
                                have hnb87 := NB319_311.out
                                have hnc87 := NB311_319.out
                                have hnb88 := NB319_312.out
                                have hnc88 := NB312_319.out
                                have hnb89 := NB319_313.out
                                have hnc89 := NB313_319.out
                                have hcz90_0 : wc.cell? ⟨gb319, 0, none⟩ = some (.int .i64 t315) := (blk_cell BK319.out 0).trans rfl
                                have hcz90_1 : wc.cell? ⟨gb319, 1, none⟩ = some (.bool t316) := (blk_cell BK319.out 1).trans rfl
                                have hcz90_2 : wc.cell? ⟨gb319, 2, none⟩ = some (.int .i64 t317) := (blk_cell BK319.out 2).trans rfl
                                have hcz90_3 : wc.cell? ⟨gb319, 3, none⟩ = some (.string t318) := (blk_cell BK319.out 3).trans rfl
                                have hfz90_0 := blk_frozen BK319.out 0
                                have hfz90_1 := blk_frozen BK319.out 1
                                have hfz90_2 := blk_frozen BK319.out 2
                                have hfz90_3 := blk_frozen BK319.out 3
                                have hnb91 := NB313_311.out
                                have hnc91 := NB311_313.out
                                have hnb92 := NB313_312.out
                                have hnc92 := NB312_313.out
                                have hcz93_0 : wc.cell? ⟨gb313, 0, none⟩ = some (.int .i64 x314000_40) := (blk_cell BK313.out 0).trans rfl
                                have hcz93_1 : wc.cell? ⟨gb313, 1, none⟩ = some (.bool x314001_40) := (blk_cell BK313.out 1).trans rfl
                                have hcz93_2 : wc.cell? ⟨gb313, 2, none⟩ = some (.int .i64 x314002_40) := (blk_cell BK313.out 2).trans rfl
                                have hcz93_3 : wc.cell? ⟨gb313, 3, none⟩ = some (.string x314003_40) := (blk_cell BK313.out 3).trans rfl
                                have hfz93_0 := blk_frozen BK313.out 0
                                have hfz93_1 := blk_frozen BK313.out 1
                                have hfz93_2 := blk_frozen BK313.out 2
                                have hfz93_3 := blk_frozen BK313.out 3
                                have hnb94 := NB311_312.out
                                have hnc94 := NB312_311.out
                                have hcz95_0 : wc.cell? ⟨gb311, 0, none⟩ = some (.int .i64 a1_0) := (blk_cell BK311.out 0).trans rfl
                                have hcz95_1 : wc.cell? ⟨gb311, 1, none⟩ = some (.int .i64 a1_1) := (blk_cell BK311.out 1).trans rfl
                                have hfz95_0 := blk_frozen BK311.out 0
                                have hfz95_1 := blk_frozen BK311.out 1
                                go_wp2
                                go_roundg kj54
                                case measure => have := HK1.out; have := HJ19.out; have := HJ40.out; have := HJ54.out; omega
                                case rel => exact ⟨(wrap64 (x6_1 + 1)), (t315), (t316), (t317), (t318), (by first | rfl | (simp; done) | (simp [*]; done)), H', ⟨by have := HK1.out; have := HJ19.out; have := HJ40.out; have := HJ54.out; omega⟩, ⟨by (with_reducible repeat (first | refine blk_drewN ?_ _ | refine blk_drew ?_ | refine blk_alloc ?_ _)); refine blk_far ?_ NB311_313.out _; (with_reducible repeat (first | refine blk_drewN ?_ _ | refine blk_drew ?_ | refine blk_alloc ?_ _)); refine blk_far ?_ NB311_313.out _; (with_reducible repeat (first | refine blk_drewN ?_ _ | refine blk_drew ?_ | refine blk_alloc ?_ _)); refine blk_far ?_ NB311_313.out _; (with_reducible repeat (first | refine blk_drewN ?_ _ | refine blk_drew ?_ | refine blk_alloc ?_ _)); refine blk_far ?_ NB311_313.out _; (with_reducible repeat (first | refine blk_drewN ?_ _ | refine blk_drew ?_ | refine blk_alloc ?_ _)); refine blk_far ?_ NB311_313.out _; (with_reducible repeat (first | refine blk_drewN ?_ _ | refine blk_drew ?_ | refine blk_alloc ?_ _)); refine blk_far ?_ NB311_313.out _; (with_reducible repeat (first | refine blk_drewN ?_ _ | refine blk_drew ?_ | refine blk_alloc ?_ _)); refine blk_far ?_ NB311_313.out _; (with_reducible repeat (first | refine blk_drewN ?_ _ | refine blk_drew ?_ | refine blk_alloc ?_ _)); refine blk_far ?_ NB311_313.out _; (with_reducible repeat (first | refine blk_drewN ?_ _ | refine blk_drew ?_ | refine blk_alloc ?_ _)); exact BK311.out⟩, ⟨by (with_reducible repeat (first | refine blk_drewN ?_ _ | refine blk_drew ?_ | refine blk_alloc ?_ _)); refine blk_far ?_ NB312_313.out _; (with_reducible repeat (first | refine blk_drewN ?_ _ | refine blk_drew ?_ | refine blk_alloc ?_ _)); refine blk_far ?_ NB312_313.out _; (with_reducible repeat (first | refine blk_drewN ?_ _ | refine blk_drew ?_ | refine blk_alloc ?_ _)); refine blk_far ?_ NB312_313.out _; (with_reducible repeat (first | refine blk_drewN ?_ _ | refine blk_drew ?_ | refine blk_alloc ?_ _)); refine blk_far ?_ NB312_313.out _; (with_reducible repeat (first | refine blk_drewN ?_ _ | refine blk_drew ?_ | refine blk_alloc ?_ _)); refine blk_far ?_ NB312_313.out _; (with_reducible repeat (first | refine blk_drewN ?_ _ | refine blk_drew ?_ | refine blk_alloc ?_ _)); refine blk_far ?_ NB312_313.out _; (with_reducible repeat (first | refine blk_drewN ?_ _ | refine blk_drew ?_ | refine blk_alloc ?_ _)); refine blk_far ?_ NB312_313.out _; (with_reducible repeat (first | refine blk_drewN ?_ _ | refine blk_drew ?_ | refine blk_alloc ?_ _)); refine blk_far ?_ NB312_313.out _; (with_reducible repeat (first | refine blk_drewN ?_ _ | refine blk_drew ?_ | refine blk_alloc ?_ _)); exact BK312.out⟩, ⟨by (with_reducible repeat (first | refine blk_drewN ?_ _ | refine blk_drew ?_ | refine blk_alloc ?_ _)); refine blk_put (cs := #[.int .i64 t315, .bool t316, .int .i64 t317, .string t318]) ?_ 3 _ rfl; (with_reducible repeat (first | refine blk_drewN ?_ _ | refine blk_drew ?_ | refine blk_alloc ?_ _)); refine blk_put (cs := #[.int .i64 t315, .bool t316, .int .i64 t317, .string t318]) ?_ 2 _ rfl; (with_reducible repeat (first | refine blk_drewN ?_ _ | refine blk_drew ?_ | refine blk_alloc ?_ _)); refine blk_put (cs := #[.int .i64 t315, .bool t316, .int .i64 t317, .string t318]) ?_ 1 _ rfl; (with_reducible repeat (first | refine blk_drewN ?_ _ | refine blk_drew ?_ | refine blk_alloc ?_ _)); refine blk_put (cs := #[.int .i64 t315, .bool t316, .int .i64 t317, .string t318]) ?_ 0 _ rfl; (with_reducible repeat (first | refine blk_drewN ?_ _ | refine blk_drew ?_ | refine blk_alloc ?_ _)); refine blk_put (cs := #[.int .i64 t315, .bool t316, .int .i64 t317, .string x314003_40]) ?_ 3 _ rfl; (with_reducible repeat (first | refine blk_drewN ?_ _ | refine blk_drew ?_ | refine blk_alloc ?_ _)); refine blk_put (cs := #[.int .i64 t315, .bool t316, .int .i64 x314002_40, .string x314003_40]) ?_ 2 _ rfl; (with_reducible repeat (first | refine blk_drewN ?_ _ | refine blk_drew ?_ | refine blk_alloc ?_ _)); refine blk_put (cs := #[.int .i64 t315, .bool x314001_40, .int .i64 x314002_40, .string x314003_40]) ?_ 1 _ rfl; (with_reducible repeat (first | refine blk_drewN ?_ _ | refine blk_drew ?_ | refine blk_alloc ?_ _)); refine blk_put (cs := #[.int .i64 x314000_40, .bool x314001_40, .int .i64 x314002_40, .string x314003_40]) ?_ 0 _ rfl; (with_reducible repeat (first | refine blk_drewN ?_ _ | refine blk_drew ?_ | refine blk_alloc ?_ _)); exact BK313.out⟩, ⟨by repeat (first | (with_reducible first | exact HB.out | apply below_alloc | apply pw_below_drewN | apply below_drew1 | refine below_set ?_ GE311.out | refine below_set ?_ GE312.out | refine below_set ?_ GE313.out | refine below_set ?_ GE319.out) | exact HB.out)⟩⟩
                              · rw [if_neg c86] at H
                                have c86b0 : (t315 == 0) = false := beq_eq_false_iff_ne.mpr c86
                                have c86b1 : (t315 != 0) = true := bne_iff_ne.mpr c86
                                replace H := Option.bind_eq_some_iff.mp H
                                obtain ⟨t321, A960, H⟩ := H
                                replace H : (if t321 > 0 then (hayloftref15_agg.l0 kj54 l0 (wrap64 (x6_1 + 1)) a1_0 a1_1 t315 t316 t317 t318) else (hayloftref15_agg.l0 kj54 l0 (wrap64 (x6_1 + 1)) a1_0 a1_1 t315 t316 t317 t318)) = some (r1, r2, r3, r4) := H
                                have A96 := Aside0.mk A960
                                clear A960
                                by_cases c97 : t321 > 0
                                · rw [if_pos c97] at H
                                  have c97b0 : decide (0 < t321) = true := decide_eq_true c97
                                  clear c97
                                  have H' := Aside0.mk H
                                  clear H
                                  have hnb98 := NB319_311.out
                                  have hnc98 := NB311_319.out
                                  have hnb99 := NB319_312.out
                                  have hnc99 := NB312_319.out
                                  have hnb100 := NB319_313.out
                                  have hnc100 := NB313_319.out
                                  have hcz101_0 : wc.cell? ⟨gb319, 0, none⟩ = some (.int .i64 t315) := (blk_cell BK319.out 0).trans rfl
                                  have hcz101_1 : wc.cell? ⟨gb319, 1, none⟩ = some (.bool t316) := (blk_cell BK319.out 1).trans rfl
                                  have hcz101_2 : wc.cell? ⟨gb319, 2, none⟩ = some (.int .i64 t317) := (blk_cell BK319.out 2).trans rfl
                                  have hcz101_3 : wc.cell? ⟨gb319, 3, none⟩ = some (.string t318) := (blk_cell BK319.out 3).trans rfl
                                  have hfz101_0 := blk_frozen BK319.out 0
                                  have hfz101_1 := blk_frozen BK319.out 1
                                  have hfz101_2 := blk_frozen BK319.out 2
                                  have hfz101_3 := blk_frozen BK319.out 3
                                  have hnb102 := NB313_311.out
                                  have hnc102 := NB311_313.out
                                  have hnb103 := NB313_312.out
                                  have hnc103 := NB312_313.out
                                  have hcz104_0 : wc.cell? ⟨gb313, 0, none⟩ = some (.int .i64 x314000_40) := (blk_cell BK313.out 0).trans rfl
                                  have hcz104_1 : wc.cell? ⟨gb313, 1, none⟩ = some (.bool x314001_40) := (blk_cell BK313.out 1).trans rfl
                                  have hcz104_2 : wc.cell? ⟨gb313, 2, none⟩ = some (.int .i64 x314002_40) := (blk_cell BK313.out 2).trans rfl
                                  have hcz104_3 : wc.cell? ⟨gb313, 3, none⟩ = some (.string x314003_40) := (blk_cell BK313.out 3).trans rfl
                                  have hfz104_0 := blk_frozen BK313.out 0
                                  have hfz104_1 := blk_frozen BK313.out 1
                                  have hfz104_2 := blk_frozen BK313.out 2
                                  have hfz104_3 := blk_frozen BK313.out 3
                                  have hnb105 := NB311_312.out
                                  have hnc105 := NB312_311.out
                                  have hcz106_0 : wc.cell? ⟨gb311, 0, none⟩ = some (.int .i64 a1_0) := (blk_cell BK311.out 0).trans rfl
                                  have hcz106_1 : wc.cell? ⟨gb311, 1, none⟩ = some (.int .i64 a1_1) := (blk_cell BK311.out 1).trans rfl
                                  have hfz106_0 := blk_frozen BK311.out 0
                                  have hfz106_1 := blk_frozen BK311.out 1
                                  go_wp2_with (first | (go_at_call 20; (with_reducible refine (hayloftref02_Compare.calls t315 t316 t317 t318 t315 t316 t317 t318 t321 _ A96.out).mono ?_); rintro e w107 ⟨rfl, hb⟩; have n0_ := Aside0.mk (blk_below (g := gb311) (o := .cells #[.int .i64 a1_0, .int .i64 a1_1] 48 (0, 0)) (by (with_reducible repeat (first | refine blk_drewN ?_ _ | refine blk_drew ?_ | refine blk_alloc ?_ _)); refine blk_far ?_ NB311_313.out _; (with_reducible repeat (first | refine blk_drewN ?_ _ | refine blk_drew ?_ | refine blk_alloc ?_ _)); refine blk_far ?_ NB311_313.out _; (with_reducible repeat (first | refine blk_drewN ?_ _ | refine blk_drew ?_ | refine blk_alloc ?_ _)); refine blk_far ?_ NB311_313.out _; (with_reducible repeat (first | refine blk_drewN ?_ _ | refine blk_drew ?_ | refine blk_alloc ?_ _)); refine blk_far ?_ NB311_313.out _; (with_reducible repeat (first | refine blk_drewN ?_ _ | refine blk_drew ?_ | refine blk_alloc ?_ _)); exact BK311.out) hb); have n1_ := Aside0.mk (blk_below (g := gb312) (o := .cells #[.int .i64 0, .bool false, .int .i64 0, .string (⟨#[]⟩ : ByteArray)] 42 (0, 0)) (by (with_reducible repeat (first | refine blk_drewN ?_ _ | refine blk_drew ?_ | refine blk_alloc ?_ _)); refine blk_far ?_ NB312_313.out _; (with_reducible repeat (first | refine blk_drewN ?_ _ | refine blk_drew ?_ | refine blk_alloc ?_ _)); refine blk_far ?_ NB312_313.out _; (with_reducible repeat (first | refine blk_drewN ?_ _ | refine blk_drew ?_ | refine blk_alloc ?_ _)); refine blk_far ?_ NB312_313.out _; (with_reducible repeat (first | refine blk_drewN ?_ _ | refine blk_drew ?_ | refine blk_alloc ?_ _)); refine blk_far ?_ NB312_313.out _; (with_reducible repeat (first | refine blk_drewN ?_ _ | refine blk_drew ?_ | refine blk_alloc ?_ _)); exact BK312.out) hb); have n2_ := Aside0.mk (blk_below (g := gb313) (o := .cells #[.int .i64 t315, .bool t316, .int .i64 t317, .string t318] 42 (0, 0)) (by (with_reducible repeat (first | refine blk_drewN ?_ _ | refine blk_drew ?_ | refine blk_alloc ?_ _)); refine blk_put (cs := #[.int .i64 t315, .bool t316, .int .i64 t317, .string x314003_40]) ?_ 3 _ rfl; (with_reducible repeat (first | refine blk_drewN ?_ _ | refine blk_drew ?_ | refine blk_alloc ?_ _)); refine blk_put (cs := #[.int .i64 t315, .bool t316, .int .i64 x314002_40, .string x314003_40]) ?_ 2 _ rfl; (with_reducible repeat (first | refine blk_drewN ?_ _ | refine blk_drew ?_ | refine blk_alloc ?_ _)); refine blk_put (cs := #[.int .i64 t315, .bool x314001_40, .int .i64 x314002_40, .string x314003_40]) ?_ 1 _ rfl; (with_reducible repeat (first | refine blk_drewN ?_ _ | refine blk_drew ?_ | refine blk_alloc ?_ _)); refine blk_put (cs := #[.int .i64 x314000_40, .bool x314001_40, .int .i64 x314002_40, .string x314003_40]) ?_ 0 _ rfl; (with_reducible repeat (first | refine blk_drewN ?_ _ | refine blk_drew ?_ | refine blk_alloc ?_ _)); exact BK313.out) hb); have n3_ := Aside0.mk (blk_below (g := gb319) (o := .cells #[.int .i64 t315, .bool t316, .int .i64 t317, .string t318] 42 (0, 0)) (by (with_reducible repeat (first | refine blk_drewN ?_ _ | refine blk_drew ?_ | refine blk_alloc ?_ _)); refine blk_far ?_ NB319_313.out _; (with_reducible repeat (first | refine blk_drewN ?_ _ | refine blk_drew ?_ | refine blk_alloc ?_ _)); refine blk_far ?_ NB319_313.out _; (with_reducible repeat (first | refine blk_drewN ?_ _ | refine blk_drew ?_ | refine blk_alloc ?_ _)); refine blk_far ?_ NB319_313.out _; (with_reducible repeat (first | refine blk_drewN ?_ _ | refine blk_drew ?_ | refine blk_alloc ?_ _)); refine blk_far ?_ NB319_313.out _; (with_reducible repeat (first | refine blk_drewN ?_ _ | refine blk_drew ?_ | refine blk_alloc ?_ _)); exact BK319.out) hb); have n4_ := Aside0.mk (below_step (by repeat (first | (with_reducible first | exact HB.out | apply below_alloc | apply pw_below_drewN | apply below_drew1 | refine below_set ?_ GE311.out | refine below_set ?_ GE312.out | refine below_set ?_ GE313.out | refine below_set ?_ GE319.out) | exact HB.out)) hb); clear BK311; clear BK312; clear BK313; clear BK319; clear HB; have BK311 := n0_; have BK312 := n1_; have BK313 := n2_; have BK319 := n3_; have HB := n4_; clear n0_ n1_ n2_ n3_ n4_; (try clear hb); (try clear hb2); (try clear hk); (try clear hi); have hcz108_0 : w107.cell? ⟨gb319, 0, none⟩ = some (.int .i64 t315) := (blk_cell BK319.out 0).trans rfl; have hcz108_1 : w107.cell? ⟨gb319, 1, none⟩ = some (.bool t316) := (blk_cell BK319.out 1).trans rfl; have hcz108_2 : w107.cell? ⟨gb319, 2, none⟩ = some (.int .i64 t317) := (blk_cell BK319.out 2).trans rfl; have hcz108_3 : w107.cell? ⟨gb319, 3, none⟩ = some (.string t318) := (blk_cell BK319.out 3).trans rfl; have hfz108_0 := blk_frozen BK319.out 0; have hfz108_1 := blk_frozen BK319.out 1; have hfz108_2 := blk_frozen BK319.out 2; have hfz108_3 := blk_frozen BK319.out 3; have hcz109_0 : w107.cell? ⟨gb313, 0, none⟩ = some (.int .i64 t315) := (blk_cell BK313.out 0).trans rfl; have hcz109_1 : w107.cell? ⟨gb313, 1, none⟩ = some (.bool t316) := (blk_cell BK313.out 1).trans rfl; have hcz109_2 : w107.cell? ⟨gb313, 2, none⟩ = some (.int .i64 t317) := (blk_cell BK313.out 2).trans rfl; have hcz109_3 : w107.cell? ⟨gb313, 3, none⟩ = some (.string t318) := (blk_cell BK313.out 3).trans rfl; have hfz109_0 := blk_frozen BK313.out 0; have hfz109_1 := blk_frozen BK313.out 1; have hfz109_2 := blk_frozen BK313.out 2; have hfz109_3 := blk_frozen BK313.out 3))
                                  go_roundg kj54
                                  case measure => have := HK1.out; have := HJ19.out; have := HJ40.out; have := HJ54.out; omega
                                  case rel => exact ⟨(wrap64 (x6_1 + 1)), (t315), (t316), (t317), (t318), (by first | rfl | (simp; done) | (simp [*]; done)), H', ⟨by have := HK1.out; have := HJ19.out; have := HJ40.out; have := HJ54.out; omega⟩, ⟨by (with_reducible repeat (first | refine blk_drewN ?_ _ | refine blk_drew ?_ | refine blk_alloc ?_ _)); refine blk_far ?_ NB311_313.out _; (with_reducible repeat (first | refine blk_drewN ?_ _ | refine blk_drew ?_ | refine blk_alloc ?_ _)); refine blk_far ?_ NB311_313.out _; (with_reducible repeat (first | refine blk_drewN ?_ _ | refine blk_drew ?_ | refine blk_alloc ?_ _)); refine blk_far ?_ NB311_313.out _; (with_reducible repeat (first | refine blk_drewN ?_ _ | refine blk_drew ?_ | refine blk_alloc ?_ _)); refine blk_far ?_ NB311_313.out _; (with_reducible repeat (first | refine blk_drewN ?_ _ | refine blk_drew ?_ | refine blk_alloc ?_ _)); exact BK311.out⟩, ⟨by (with_reducible repeat (first | refine blk_drewN ?_ _ | refine blk_drew ?_ | refine blk_alloc ?_ _)); refine blk_far ?_ NB312_313.out _; (with_reducible repeat (first | refine blk_drewN ?_ _ | refine blk_drew ?_ | refine blk_alloc ?_ _)); refine blk_far ?_ NB312_313.out _; (with_reducible repeat (first | refine blk_drewN ?_ _ | refine blk_drew ?_ | refine blk_alloc ?_ _)); refine blk_far ?_ NB312_313.out _; (with_reducible repeat (first | refine blk_drewN ?_ _ | refine blk_drew ?_ | refine blk_alloc ?_ _)); refine blk_far ?_ NB312_313.out _; (with_reducible repeat (first | refine blk_drewN ?_ _ | refine blk_drew ?_ | refine blk_alloc ?_ _)); exact BK312.out⟩, ⟨by (with_reducible repeat (first | refine blk_drewN ?_ _ | refine blk_drew ?_ | refine blk_alloc ?_ _)); refine blk_put (cs := #[.int .i64 t315, .bool t316, .int .i64 t317, .string t318]) ?_ 3 _ rfl; (with_reducible repeat (first | refine blk_drewN ?_ _ | refine blk_drew ?_ | refine blk_alloc ?_ _)); refine blk_put (cs := #[.int .i64 t315, .bool t316, .int .i64 t317, .string t318]) ?_ 2 _ rfl; (with_reducible repeat (first | refine blk_drewN ?_ _ | refine blk_drew ?_ | refine blk_alloc ?_ _)); refine blk_put (cs := #[.int .i64 t315, .bool t316, .int .i64 t317, .string t318]) ?_ 1 _ rfl; (with_reducible repeat (first | refine blk_drewN ?_ _ | refine blk_drew ?_ | refine blk_alloc ?_ _)); refine blk_put (cs := #[.int .i64 t315, .bool t316, .int .i64 t317, .string t318]) ?_ 0 _ rfl; (with_reducible repeat (first | refine blk_drewN ?_ _ | refine blk_drew ?_ | refine blk_alloc ?_ _)); exact BK313.out⟩, ⟨by repeat (first | (with_reducible first | exact HB.out | apply below_alloc | apply pw_below_drewN | apply below_drew1 | refine below_set ?_ GE311.out | refine below_set ?_ GE312.out | refine below_set ?_ GE313.out | refine below_set ?_ GE319.out) | exact HB.out)⟩⟩
                                · rw [if_neg c97] at H
                                  have c97b0 : decide (0 < t321) = false := decide_eq_false c97
                                  clear c97
                                  have H' := Aside0.mk H
                                  clear H
                                  have hnb110 := NB319_311.out
                                  have hnc110 := NB311_319.out
                                  have hnb111 := NB319_312.out
                                  have hnc111 := NB312_319.out
                                  have hnb112 := NB319_313.out
                                  have hnc112 := NB313_319.out
                                  have hcz113_0 : wc.cell? ⟨gb319, 0, none⟩ = some (.int .i64 t315) := (blk_cell BK319.out 0).trans rfl
                                  have hcz113_1 : wc.cell? ⟨gb319, 1, none⟩ = some (.bool t316) := (blk_cell BK319.out 1).trans rfl
                                  have hcz113_2 : wc.cell? ⟨gb319, 2, none⟩ = some (.int .i64 t317) := (blk_cell BK319.out 2).trans rfl
                                  have hcz113_3 : wc.cell? ⟨gb319, 3, none⟩ = some (.string t318) := (blk_cell BK319.out 3).trans rfl
                                  have hfz113_0 := blk_frozen BK319.out 0
                                  have hfz113_1 := blk_frozen BK319.out 1
                                  have hfz113_2 := blk_frozen BK319.out 2
                                  have hfz113_3 := blk_frozen BK319.out 3
                                  have hnb114 := NB313_311.out
                                  have hnc114 := NB311_313.out
                                  have hnb115 := NB313_312.out
                                  have hnc115 := NB312_313.out
                                  have hcz116_0 : wc.cell? ⟨gb313, 0, none⟩ = some (.int .i64 x314000_40) := (blk_cell BK313.out 0).trans rfl
                                  have hcz116_1 : wc.cell? ⟨gb313, 1, none⟩ = some (.bool x314001_40) := (blk_cell BK313.out 1).trans rfl
                                  have hcz116_2 : wc.cell? ⟨gb313, 2, none⟩ = some (.int .i64 x314002_40) := (blk_cell BK313.out 2).trans rfl
                                  have hcz116_3 : wc.cell? ⟨gb313, 3, none⟩ = some (.string x314003_40) := (blk_cell BK313.out 3).trans rfl
                                  have hfz116_0 := blk_frozen BK313.out 0
                                  have hfz116_1 := blk_frozen BK313.out 1
                                  have hfz116_2 := blk_frozen BK313.out 2
                                  have hfz116_3 := blk_frozen BK313.out 3
                                  have hnb117 := NB311_312.out
                                  have hnc117 := NB312_311.out
                                  have hcz118_0 : wc.cell? ⟨gb311, 0, none⟩ = some (.int .i64 a1_0) := (blk_cell BK311.out 0).trans rfl
                                  have hcz118_1 : wc.cell? ⟨gb311, 1, none⟩ = some (.int .i64 a1_1) := (blk_cell BK311.out 1).trans rfl
                                  have hfz118_0 := blk_frozen BK311.out 0
                                  have hfz118_1 := blk_frozen BK311.out 1
                                  go_wp2_with (first | (go_at_call 20; (with_reducible refine (hayloftref02_Compare.calls t315 t316 t317 t318 t315 t316 t317 t318 t321 _ A96.out).mono ?_); rintro e w119 ⟨rfl, hb⟩; have n0_ := Aside0.mk (blk_below (g := gb311) (o := .cells #[.int .i64 a1_0, .int .i64 a1_1] 48 (0, 0)) (by (with_reducible repeat (first | refine blk_drewN ?_ _ | refine blk_drew ?_ | refine blk_alloc ?_ _)); refine blk_far ?_ NB311_313.out _; (with_reducible repeat (first | refine blk_drewN ?_ _ | refine blk_drew ?_ | refine blk_alloc ?_ _)); refine blk_far ?_ NB311_313.out _; (with_reducible repeat (first | refine blk_drewN ?_ _ | refine blk_drew ?_ | refine blk_alloc ?_ _)); refine blk_far ?_ NB311_313.out _; (with_reducible repeat (first | refine blk_drewN ?_ _ | refine blk_drew ?_ | refine blk_alloc ?_ _)); refine blk_far ?_ NB311_313.out _; (with_reducible repeat (first | refine blk_drewN ?_ _ | refine blk_drew ?_ | refine blk_alloc ?_ _)); exact BK311.out) hb); have n1_ := Aside0.mk (blk_below (g := gb312) (o := .cells #[.int .i64 0, .bool false, .int .i64 0, .string (⟨#[]⟩ : ByteArray)] 42 (0, 0)) (by (with_reducible repeat (first | refine blk_drewN ?_ _ | refine blk_drew ?_ | refine blk_alloc ?_ _)); refine blk_far ?_ NB312_313.out _; (with_reducible repeat (first | refine blk_drewN ?_ _ | refine blk_drew ?_ | refine blk_alloc ?_ _)); refine blk_far ?_ NB312_313.out _; (with_reducible repeat (first | refine blk_drewN ?_ _ | refine blk_drew ?_ | refine blk_alloc ?_ _)); refine blk_far ?_ NB312_313.out _; (with_reducible repeat (first | refine blk_drewN ?_ _ | refine blk_drew ?_ | refine blk_alloc ?_ _)); refine blk_far ?_ NB312_313.out _; (with_reducible repeat (first | refine blk_drewN ?_ _ | refine blk_drew ?_ | refine blk_alloc ?_ _)); exact BK312.out) hb); have n2_ := Aside0.mk (blk_below (g := gb313) (o := .cells #[.int .i64 t315, .bool t316, .int .i64 t317, .string t318] 42 (0, 0)) (by (with_reducible repeat (first | refine blk_drewN ?_ _ | refine blk_drew ?_ | refine blk_alloc ?_ _)); refine blk_put (cs := #[.int .i64 t315, .bool t316, .int .i64 t317, .string x314003_40]) ?_ 3 _ rfl; (with_reducible repeat (first | refine blk_drewN ?_ _ | refine blk_drew ?_ | refine blk_alloc ?_ _)); refine blk_put (cs := #[.int .i64 t315, .bool t316, .int .i64 x314002_40, .string x314003_40]) ?_ 2 _ rfl; (with_reducible repeat (first | refine blk_drewN ?_ _ | refine blk_drew ?_ | refine blk_alloc ?_ _)); refine blk_put (cs := #[.int .i64 t315, .bool x314001_40, .int .i64 x314002_40, .string x314003_40]) ?_ 1 _ rfl; (with_reducible repeat (first | refine blk_drewN ?_ _ | refine blk_drew ?_ | refine blk_alloc ?_ _)); refine blk_put (cs := #[.int .i64 x314000_40, .bool x314001_40, .int .i64 x314002_40, .string x314003_40]) ?_ 0 _ rfl; (with_reducible repeat (first | refine blk_drewN ?_ _ | refine blk_drew ?_ | refine blk_alloc ?_ _)); exact BK313.out) hb); have n3_ := Aside0.mk (blk_below (g := gb319) (o := .cells #[.int .i64 t315, .bool t316, .int .i64 t317, .string t318] 42 (0, 0)) (by (with_reducible repeat (first | refine blk_drewN ?_ _ | refine blk_drew ?_ | refine blk_alloc ?_ _)); refine blk_far ?_ NB319_313.out _; (with_reducible repeat (first | refine blk_drewN ?_ _ | refine blk_drew ?_ | refine blk_alloc ?_ _)); refine blk_far ?_ NB319_313.out _; (with_reducible repeat (first | refine blk_drewN ?_ _ | refine blk_drew ?_ | refine blk_alloc ?_ _)); refine blk_far ?_ NB319_313.out _; (with_reducible repeat (first | refine blk_drewN ?_ _ | refine blk_drew ?_ | refine blk_alloc ?_ _)); refine blk_far ?_ NB319_313.out _; (with_reducible repeat (first | refine blk_drewN ?_ _ | refine blk_drew ?_ | refine blk_alloc ?_ _)); exact BK319.out) hb); have n4_ := Aside0.mk (below_step (by repeat (first | (with_reducible first | exact HB.out | apply below_alloc | apply pw_below_drewN | apply below_drew1 | refine below_set ?_ GE311.out | refine below_set ?_ GE312.out | refine below_set ?_ GE313.out | refine below_set ?_ GE319.out) | exact HB.out)) hb); clear BK311; clear BK312; clear BK313; clear BK319; clear HB; have BK311 := n0_; have BK312 := n1_; have BK313 := n2_; have BK319 := n3_; have HB := n4_; clear n0_ n1_ n2_ n3_ n4_; (try clear hb); (try clear hb2); (try clear hk); (try clear hi)))
                                  go_roundg kj54
                                  case measure => have := HK1.out; have := HJ19.out; have := HJ40.out; have := HJ54.out; omega
                                  case rel => exact ⟨(wrap64 (x6_1 + 1)), (t315), (t316), (t317), (t318), (by first | rfl | (simp; done) | (simp [*]; done)), H', ⟨by have := HK1.out; have := HJ19.out; have := HJ40.out; have := HJ54.out; omega⟩, ⟨by (with_reducible repeat (first | refine blk_drewN ?_ _ | refine blk_drew ?_ | refine blk_alloc ?_ _)); exact BK311.out⟩, ⟨by (with_reducible repeat (first | refine blk_drewN ?_ _ | refine blk_drew ?_ | refine blk_alloc ?_ _)); exact BK312.out⟩, ⟨by (with_reducible repeat (first | refine blk_drewN ?_ _ | refine blk_drew ?_ | refine blk_alloc ?_ _)); exact BK313.out⟩, ⟨by repeat (first | (with_reducible first | exact HB.out | apply below_alloc | apply pw_below_drewN | apply below_drew1 | refine below_set ?_ GE311.out | refine below_set ?_ GE312.out | refine below_set ?_ GE313.out | refine below_set ?_ GE319.out) | exact HB.out)⟩⟩
                            · rw [if_neg c85] at H
                              have c85b0 : (a1_0 == 3) = false := beq_eq_false_iff_ne.mpr c85
                              have c85b1 : (a1_0 != 3) = true := bne_iff_ne.mpr c85
                              have H' := Aside0.mk H
                              clear H
                              have hnb120 := NB319_311.out
                              have hnc120 := NB311_319.out
                              have hnb121 := NB319_312.out
                              have hnc121 := NB312_319.out
                              have hnb122 := NB319_313.out
                              have hnc122 := NB313_319.out
                              have hcz123_0 : wc.cell? ⟨gb319, 0, none⟩ = some (.int .i64 t315) := (blk_cell BK319.out 0).trans rfl
                              have hcz123_1 : wc.cell? ⟨gb319, 1, none⟩ = some (.bool t316) := (blk_cell BK319.out 1).trans rfl
                              have hcz123_2 : wc.cell? ⟨gb319, 2, none⟩ = some (.int .i64 t317) := (blk_cell BK319.out 2).trans rfl
                              have hcz123_3 : wc.cell? ⟨gb319, 3, none⟩ = some (.string t318) := (blk_cell BK319.out 3).trans rfl
                              have hfz123_0 := blk_frozen BK319.out 0
                              have hfz123_1 := blk_frozen BK319.out 1
                              have hfz123_2 := blk_frozen BK319.out 2
                              have hfz123_3 := blk_frozen BK319.out 3
                              have hnb124 := NB313_311.out
                              have hnc124 := NB311_313.out
                              have hnb125 := NB313_312.out
                              have hnc125 := NB312_313.out
                              have hcz126_0 : wc.cell? ⟨gb313, 0, none⟩ = some (.int .i64 x314000_40) := (blk_cell BK313.out 0).trans rfl
                              have hcz126_1 : wc.cell? ⟨gb313, 1, none⟩ = some (.bool x314001_40) := (blk_cell BK313.out 1).trans rfl
                              have hcz126_2 : wc.cell? ⟨gb313, 2, none⟩ = some (.int .i64 x314002_40) := (blk_cell BK313.out 2).trans rfl
                              have hcz126_3 : wc.cell? ⟨gb313, 3, none⟩ = some (.string x314003_40) := (blk_cell BK313.out 3).trans rfl
                              have hfz126_0 := blk_frozen BK313.out 0
                              have hfz126_1 := blk_frozen BK313.out 1
                              have hfz126_2 := blk_frozen BK313.out 2
                              have hfz126_3 := blk_frozen BK313.out 3
                              have hnb127 := NB311_312.out
                              have hnc127 := NB312_311.out
                              have hcz128_0 : wc.cell? ⟨gb311, 0, none⟩ = some (.int .i64 a1_0) := (blk_cell BK311.out 0).trans rfl
                              have hcz128_1 : wc.cell? ⟨gb311, 1, none⟩ = some (.int .i64 a1_1) := (blk_cell BK311.out 1).trans rfl
                              have hfz128_0 := blk_frozen BK311.out 0
                              have hfz128_1 := blk_frozen BK311.out 1
                              go_wp2
                              go_roundg kj54
                              case measure => have := HK1.out; have := HJ19.out; have := HJ40.out; have := HJ54.out; omega
                              case rel => exact ⟨(wrap64 (x6_1 + 1)), (t315), (t316), (t317), (t318), (by first | rfl | (simp; done) | (simp [*]; done)), H', ⟨by have := HK1.out; have := HJ19.out; have := HJ40.out; have := HJ54.out; omega⟩, ⟨by (with_reducible repeat (first | refine blk_drewN ?_ _ | refine blk_drew ?_ | refine blk_alloc ?_ _)); refine blk_far ?_ NB311_313.out _; (with_reducible repeat (first | refine blk_drewN ?_ _ | refine blk_drew ?_ | refine blk_alloc ?_ _)); refine blk_far ?_ NB311_313.out _; (with_reducible repeat (first | refine blk_drewN ?_ _ | refine blk_drew ?_ | refine blk_alloc ?_ _)); refine blk_far ?_ NB311_313.out _; (with_reducible repeat (first | refine blk_drewN ?_ _ | refine blk_drew ?_ | refine blk_alloc ?_ _)); refine blk_far ?_ NB311_313.out _; (with_reducible repeat (first | refine blk_drewN ?_ _ | refine blk_drew ?_ | refine blk_alloc ?_ _)); exact BK311.out⟩, ⟨by (with_reducible repeat (first | refine blk_drewN ?_ _ | refine blk_drew ?_ | refine blk_alloc ?_ _)); refine blk_far ?_ NB312_313.out _; (with_reducible repeat (first | refine blk_drewN ?_ _ | refine blk_drew ?_ | refine blk_alloc ?_ _)); refine blk_far ?_ NB312_313.out _; (with_reducible repeat (first | refine blk_drewN ?_ _ | refine blk_drew ?_ | refine blk_alloc ?_ _)); refine blk_far ?_ NB312_313.out _; (with_reducible repeat (first | refine blk_drewN ?_ _ | refine blk_drew ?_ | refine blk_alloc ?_ _)); refine blk_far ?_ NB312_313.out _; (with_reducible repeat (first | refine blk_drewN ?_ _ | refine blk_drew ?_ | refine blk_alloc ?_ _)); exact BK312.out⟩, ⟨by (with_reducible repeat (first | refine blk_drewN ?_ _ | refine blk_drew ?_ | refine blk_alloc ?_ _)); refine blk_put (cs := #[.int .i64 t315, .bool t316, .int .i64 t317, .string x314003_40]) ?_ 3 _ rfl; (with_reducible repeat (first | refine blk_drewN ?_ _ | refine blk_drew ?_ | refine blk_alloc ?_ _)); refine blk_put (cs := #[.int .i64 t315, .bool t316, .int .i64 x314002_40, .string x314003_40]) ?_ 2 _ rfl; (with_reducible repeat (first | refine blk_drewN ?_ _ | refine blk_drew ?_ | refine blk_alloc ?_ _)); refine blk_put (cs := #[.int .i64 t315, .bool x314001_40, .int .i64 x314002_40, .string x314003_40]) ?_ 1 _ rfl; (with_reducible repeat (first | refine blk_drewN ?_ _ | refine blk_drew ?_ | refine blk_alloc ?_ _)); refine blk_put (cs := #[.int .i64 x314000_40, .bool x314001_40, .int .i64 x314002_40, .string x314003_40]) ?_ 0 _ rfl; (with_reducible repeat (first | refine blk_drewN ?_ _ | refine blk_drew ?_ | refine blk_alloc ?_ _)); exact BK313.out⟩, ⟨by repeat (first | (with_reducible first | exact HB.out | apply below_alloc | apply pw_below_drewN | apply below_drew1 | refine below_set ?_ GE311.out | refine below_set ?_ GE312.out | refine below_set ?_ GE313.out | refine below_set ?_ GE319.out) | exact HB.out)⟩⟩
                          · replace c84 := Bool.eq_false_iff.mpr c84
                            subst c84
                            have H1 : (if a1_0 = 3 then (if x314000_40 = 0 then (hayloftref15_agg.l0 kj54 l0 (wrap64 (x6_1 + 1)) a1_0 a1_1 t315 t316 t317 t318) else ((hayloftref02_Compare.f t315 t316 t317 t318 x314000_40 x314001_40 x314002_40 x314003_40).bind fun t322 => (if t322 > 0 then (hayloftref15_agg.l0 kj54 l0 (wrap64 (x6_1 + 1)) a1_0 a1_1 t315 t316 t317 t318) else (hayloftref15_agg.l0 kj54 l0 (wrap64 (x6_1 + 1)) a1_0 a1_1 x314000_40 x314001_40 x314002_40 x314003_40)))) else (hayloftref15_agg.l0 kj54 l0 (wrap64 (x6_1 + 1)) a1_0 a1_1 x314000_40 x314001_40 x314002_40 x314003_40)) = some (r1, r2, r3, r4) := by rw [if_neg (show ¬ (false = true) by decide)] at H; exact H
                            clear H
                            have H := H1
                            clear H1
                            by_cases c129 : a1_0 = 3
                            · rw [if_pos c129] at H
                              have c129b0 : (a1_0 == 3) = true := beq_iff_eq.mpr c129
                              have c129b1 : (a1_0 != 3) = false := bne_eq_false_iff_eq.mpr c129
                              clear c129
                              by_cases c130 : x314000_40 = 0
                              · rw [if_pos c130] at H
                                have c130b0 : (x314000_40 == 0) = true := beq_iff_eq.mpr c130
                                have c130b1 : (x314000_40 != 0) = false := bne_eq_false_iff_eq.mpr c130
                                clear c130
                                have H' := Aside0.mk H
                                clear H
                                have hnb131 := NB311_312.out
                                have hnc131 := NB312_311.out
                                have hnb132 := NB311_313.out
                                have hnc132 := NB313_311.out
                                have hnb133 := NB311_319.out
                                have hnc133 := NB319_311.out
                                have hcz134_0 : wc.cell? ⟨gb311, 0, none⟩ = some (.int .i64 a1_0) := (blk_cell BK311.out 0).trans rfl
                                have hcz134_1 : wc.cell? ⟨gb311, 1, none⟩ = some (.int .i64 a1_1) := (blk_cell BK311.out 1).trans rfl
                                have hfz134_0 := blk_frozen BK311.out 0
                                have hfz134_1 := blk_frozen BK311.out 1
                                have hnb135 := NB313_312.out
                                have hnc135 := NB312_313.out
                                have hnb136 := NB313_319.out
                                have hnc136 := NB319_313.out
                                have hcz137_0 : wc.cell? ⟨gb313, 0, none⟩ = some (.int .i64 x314000_40) := (blk_cell BK313.out 0).trans rfl
                                have hcz137_1 : wc.cell? ⟨gb313, 1, none⟩ = some (.bool x314001_40) := (blk_cell BK313.out 1).trans rfl
                                have hcz137_2 : wc.cell? ⟨gb313, 2, none⟩ = some (.int .i64 x314002_40) := (blk_cell BK313.out 2).trans rfl
                                have hcz137_3 : wc.cell? ⟨gb313, 3, none⟩ = some (.string x314003_40) := (blk_cell BK313.out 3).trans rfl
                                have hfz137_0 := blk_frozen BK313.out 0
                                have hfz137_1 := blk_frozen BK313.out 1
                                have hfz137_2 := blk_frozen BK313.out 2
                                have hfz137_3 := blk_frozen BK313.out 3
                                have hnb138 := NB319_312.out
                                have hnc138 := NB312_319.out
                                have hcz139_0 : wc.cell? ⟨gb319, 0, none⟩ = some (.int .i64 t315) := (blk_cell BK319.out 0).trans rfl
                                have hcz139_1 : wc.cell? ⟨gb319, 1, none⟩ = some (.bool t316) := (blk_cell BK319.out 1).trans rfl
                                have hcz139_2 : wc.cell? ⟨gb319, 2, none⟩ = some (.int .i64 t317) := (blk_cell BK319.out 2).trans rfl
                                have hcz139_3 : wc.cell? ⟨gb319, 3, none⟩ = some (.string t318) := (blk_cell BK319.out 3).trans rfl
                                have hfz139_0 := blk_frozen BK319.out 0
                                have hfz139_1 := blk_frozen BK319.out 1
                                have hfz139_2 := blk_frozen BK319.out 2
                                have hfz139_3 := blk_frozen BK319.out 3
                                go_wp2
                                go_roundg kj54
                                case measure => have := HK1.out; have := HJ19.out; have := HJ40.out; have := HJ54.out; omega
                                case rel => exact ⟨(wrap64 (x6_1 + 1)), (t315), (t316), (t317), (t318), (by first | rfl | (simp; done) | (simp [*]; done)), H', ⟨by have := HK1.out; have := HJ19.out; have := HJ40.out; have := HJ54.out; omega⟩, ⟨by (with_reducible repeat (first | refine blk_drewN ?_ _ | refine blk_drew ?_ | refine blk_alloc ?_ _)); refine blk_far ?_ NB311_313.out _; (with_reducible repeat (first | refine blk_drewN ?_ _ | refine blk_drew ?_ | refine blk_alloc ?_ _)); refine blk_far ?_ NB311_313.out _; (with_reducible repeat (first | refine blk_drewN ?_ _ | refine blk_drew ?_ | refine blk_alloc ?_ _)); refine blk_far ?_ NB311_313.out _; (with_reducible repeat (first | refine blk_drewN ?_ _ | refine blk_drew ?_ | refine blk_alloc ?_ _)); refine blk_far ?_ NB311_313.out _; (with_reducible repeat (first | refine blk_drewN ?_ _ | refine blk_drew ?_ | refine blk_alloc ?_ _)); exact BK311.out⟩, ⟨by (with_reducible repeat (first | refine blk_drewN ?_ _ | refine blk_drew ?_ | refine blk_alloc ?_ _)); refine blk_far ?_ NB312_313.out _; (with_reducible repeat (first | refine blk_drewN ?_ _ | refine blk_drew ?_ | refine blk_alloc ?_ _)); refine blk_far ?_ NB312_313.out _; (with_reducible repeat (first | refine blk_drewN ?_ _ | refine blk_drew ?_ | refine blk_alloc ?_ _)); refine blk_far ?_ NB312_313.out _; (with_reducible repeat (first | refine blk_drewN ?_ _ | refine blk_drew ?_ | refine blk_alloc ?_ _)); refine blk_far ?_ NB312_313.out _; (with_reducible repeat (first | refine blk_drewN ?_ _ | refine blk_drew ?_ | refine blk_alloc ?_ _)); exact BK312.out⟩, ⟨by (with_reducible repeat (first | refine blk_drewN ?_ _ | refine blk_drew ?_ | refine blk_alloc ?_ _)); refine blk_put (cs := #[.int .i64 t315, .bool t316, .int .i64 t317, .string x314003_40]) ?_ 3 _ rfl; (with_reducible repeat (first | refine blk_drewN ?_ _ | refine blk_drew ?_ | refine blk_alloc ?_ _)); refine blk_put (cs := #[.int .i64 t315, .bool t316, .int .i64 x314002_40, .string x314003_40]) ?_ 2 _ rfl; (with_reducible repeat (first | refine blk_drewN ?_ _ | refine blk_drew ?_ | refine blk_alloc ?_ _)); refine blk_put (cs := #[.int .i64 t315, .bool x314001_40, .int .i64 x314002_40, .string x314003_40]) ?_ 1 _ rfl; (with_reducible repeat (first | refine blk_drewN ?_ _ | refine blk_drew ?_ | refine blk_alloc ?_ _)); refine blk_put (cs := #[.int .i64 x314000_40, .bool x314001_40, .int .i64 x314002_40, .string x314003_40]) ?_ 0 _ rfl; (with_reducible repeat (first | refine blk_drewN ?_ _ | refine blk_drew ?_ | refine blk_alloc ?_ _)); exact BK313.out⟩, ⟨by repeat (first | (with_reducible first | exact HB.out | apply below_alloc | apply pw_below_drewN | apply below_drew1 | refine below_set ?_ GE311.out | refine below_set ?_ GE312.out | refine below_set ?_ GE313.out | refine below_set ?_ GE319.out) | exact HB.out)⟩⟩
                              · rw [if_neg c130] at H
                                have c130b0 : (x314000_40 == 0) = false := beq_eq_false_iff_ne.mpr c130
                                have c130b1 : (x314000_40 != 0) = true := bne_iff_ne.mpr c130
                                replace H := Option.bind_eq_some_iff.mp H
                                obtain ⟨t322, A1400, H⟩ := H
                                replace H : (if t322 > 0 then (hayloftref15_agg.l0 kj54 l0 (wrap64 (x6_1 + 1)) a1_0 a1_1 t315 t316 t317 t318) else (hayloftref15_agg.l0 kj54 l0 (wrap64 (x6_1 + 1)) a1_0 a1_1 x314000_40 x314001_40 x314002_40 x314003_40)) = some (r1, r2, r3, r4) := H
                                have A140 := Aside0.mk A1400
                                clear A1400
                                by_cases c141 : t322 > 0
                                · rw [if_pos c141] at H
                                  have c141b0 : decide (0 < t322) = true := decide_eq_true c141
                                  clear c141
                                  have H' := Aside0.mk H
                                  clear H
                                  have hnb142 := NB311_312.out
                                  have hnc142 := NB312_311.out
                                  have hnb143 := NB311_313.out
                                  have hnc143 := NB313_311.out
                                  have hnb144 := NB311_319.out
                                  have hnc144 := NB319_311.out
                                  have hcz145_0 : wc.cell? ⟨gb311, 0, none⟩ = some (.int .i64 a1_0) := (blk_cell BK311.out 0).trans rfl
                                  have hcz145_1 : wc.cell? ⟨gb311, 1, none⟩ = some (.int .i64 a1_1) := (blk_cell BK311.out 1).trans rfl
                                  have hfz145_0 := blk_frozen BK311.out 0
                                  have hfz145_1 := blk_frozen BK311.out 1
                                  have hnb146 := NB313_312.out
                                  have hnc146 := NB312_313.out
                                  have hnb147 := NB313_319.out
                                  have hnc147 := NB319_313.out
                                  have hcz148_0 : wc.cell? ⟨gb313, 0, none⟩ = some (.int .i64 x314000_40) := (blk_cell BK313.out 0).trans rfl
                                  have hcz148_1 : wc.cell? ⟨gb313, 1, none⟩ = some (.bool x314001_40) := (blk_cell BK313.out 1).trans rfl
                                  have hcz148_2 : wc.cell? ⟨gb313, 2, none⟩ = some (.int .i64 x314002_40) := (blk_cell BK313.out 2).trans rfl
                                  have hcz148_3 : wc.cell? ⟨gb313, 3, none⟩ = some (.string x314003_40) := (blk_cell BK313.out 3).trans rfl
                                  have hfz148_0 := blk_frozen BK313.out 0
                                  have hfz148_1 := blk_frozen BK313.out 1
                                  have hfz148_2 := blk_frozen BK313.out 2
                                  have hfz148_3 := blk_frozen BK313.out 3
                                  have hnb149 := NB319_312.out
                                  have hnc149 := NB312_319.out
                                  have hcz150_0 : wc.cell? ⟨gb319, 0, none⟩ = some (.int .i64 t315) := (blk_cell BK319.out 0).trans rfl
                                  have hcz150_1 : wc.cell? ⟨gb319, 1, none⟩ = some (.bool t316) := (blk_cell BK319.out 1).trans rfl
                                  have hcz150_2 : wc.cell? ⟨gb319, 2, none⟩ = some (.int .i64 t317) := (blk_cell BK319.out 2).trans rfl
                                  have hcz150_3 : wc.cell? ⟨gb319, 3, none⟩ = some (.string t318) := (blk_cell BK319.out 3).trans rfl
                                  have hfz150_0 := blk_frozen BK319.out 0
                                  have hfz150_1 := blk_frozen BK319.out 1
                                  have hfz150_2 := blk_frozen BK319.out 2
                                  have hfz150_3 := blk_frozen BK319.out 3
                                  go_wp2_with (first | (go_at_call 20; (with_reducible refine (hayloftref02_Compare.calls t315 t316 t317 t318 x314000_40 x314001_40 x314002_40 x314003_40 t322 _ A140.out).mono ?_); rintro e w151 ⟨rfl, hb⟩; have n0_ := Aside0.mk (blk_below (g := gb311) (o := .cells #[.int .i64 a1_0, .int .i64 a1_1] 48 (0, 0)) (by (with_reducible repeat (first | refine blk_drewN ?_ _ | refine blk_drew ?_ | refine blk_alloc ?_ _)); exact BK311.out) hb); have n1_ := Aside0.mk (blk_below (g := gb312) (o := .cells #[.int .i64 0, .bool false, .int .i64 0, .string (⟨#[]⟩ : ByteArray)] 42 (0, 0)) (by (with_reducible repeat (first | refine blk_drewN ?_ _ | refine blk_drew ?_ | refine blk_alloc ?_ _)); exact BK312.out) hb); have n2_ := Aside0.mk (blk_below (g := gb313) (o := .cells #[.int .i64 x314000_40, .bool x314001_40, .int .i64 x314002_40, .string x314003_40] 42 (0, 0)) (by (with_reducible repeat (first | refine blk_drewN ?_ _ | refine blk_drew ?_ | refine blk_alloc ?_ _)); exact BK313.out) hb); have n3_ := Aside0.mk (blk_below (g := gb319) (o := .cells #[.int .i64 t315, .bool t316, .int .i64 t317, .string t318] 42 (0, 0)) (by (with_reducible repeat (first | refine blk_drewN ?_ _ | refine blk_drew ?_ | refine blk_alloc ?_ _)); exact BK319.out) hb); have n4_ := Aside0.mk (below_step (by repeat (first | (with_reducible first | exact HB.out | apply below_alloc | apply pw_below_drewN | apply below_drew1 | refine below_set ?_ GE311.out | refine below_set ?_ GE312.out | refine below_set ?_ GE313.out | refine below_set ?_ GE319.out) | exact HB.out)) hb); clear BK311; clear BK312; clear BK313; clear BK319; clear HB; have BK311 := n0_; have BK312 := n1_; have BK313 := n2_; have BK319 := n3_; have HB := n4_; clear n0_ n1_ n2_ n3_ n4_; (try clear hb); (try clear hb2); (try clear hk); (try clear hi); have hcz152_0 : w151.cell? ⟨gb319, 0, none⟩ = some (.int .i64 t315) := (blk_cell BK319.out 0).trans rfl; have hcz152_1 : w151.cell? ⟨gb319, 1, none⟩ = some (.bool t316) := (blk_cell BK319.out 1).trans rfl; have hcz152_2 : w151.cell? ⟨gb319, 2, none⟩ = some (.int .i64 t317) := (blk_cell BK319.out 2).trans rfl; have hcz152_3 : w151.cell? ⟨gb319, 3, none⟩ = some (.string t318) := (blk_cell BK319.out 3).trans rfl; have hfz152_0 := blk_frozen BK319.out 0; have hfz152_1 := blk_frozen BK319.out 1; have hfz152_2 := blk_frozen BK319.out 2; have hfz152_3 := blk_frozen BK319.out 3; have hcz153_0 : w151.cell? ⟨gb313, 0, none⟩ = some (.int .i64 x314000_40) := (blk_cell BK313.out 0).trans rfl; have hcz153_1 : w151.cell? ⟨gb313, 1, none⟩ = some (.bool x314001_40) := (blk_cell BK313.out 1).trans rfl; have hcz153_2 : w151.cell? ⟨gb313, 2, none⟩ = some (.int .i64 x314002_40) := (blk_cell BK313.out 2).trans rfl; have hcz153_3 : w151.cell? ⟨gb313, 3, none⟩ = some (.string x314003_40) := (blk_cell BK313.out 3).trans rfl; have hfz153_0 := blk_frozen BK313.out 0; have hfz153_1 := blk_frozen BK313.out 1; have hfz153_2 := blk_frozen BK313.out 2; have hfz153_3 := blk_frozen BK313.out 3))
                                  go_roundg kj54
                                  case measure => have := HK1.out; have := HJ19.out; have := HJ40.out; have := HJ54.out; omega
                                  case rel => exact ⟨(wrap64 (x6_1 + 1)), (t315), (t316), (t317), (t318), (by first | rfl | (simp; done) | (simp [*]; done)), H', ⟨by have := HK1.out; have := HJ19.out; have := HJ40.out; have := HJ54.out; omega⟩, ⟨by (with_reducible repeat (first | refine blk_drewN ?_ _ | refine blk_drew ?_ | refine blk_alloc ?_ _)); refine blk_far ?_ NB311_313.out _; (with_reducible repeat (first | refine blk_drewN ?_ _ | refine blk_drew ?_ | refine blk_alloc ?_ _)); refine blk_far ?_ NB311_313.out _; (with_reducible repeat (first | refine blk_drewN ?_ _ | refine blk_drew ?_ | refine blk_alloc ?_ _)); refine blk_far ?_ NB311_313.out _; (with_reducible repeat (first | refine blk_drewN ?_ _ | refine blk_drew ?_ | refine blk_alloc ?_ _)); refine blk_far ?_ NB311_313.out _; (with_reducible repeat (first | refine blk_drewN ?_ _ | refine blk_drew ?_ | refine blk_alloc ?_ _)); exact BK311.out⟩, ⟨by (with_reducible repeat (first | refine blk_drewN ?_ _ | refine blk_drew ?_ | refine blk_alloc ?_ _)); refine blk_far ?_ NB312_313.out _; (with_reducible repeat (first | refine blk_drewN ?_ _ | refine blk_drew ?_ | refine blk_alloc ?_ _)); refine blk_far ?_ NB312_313.out _; (with_reducible repeat (first | refine blk_drewN ?_ _ | refine blk_drew ?_ | refine blk_alloc ?_ _)); refine blk_far ?_ NB312_313.out _; (with_reducible repeat (first | refine blk_drewN ?_ _ | refine blk_drew ?_ | refine blk_alloc ?_ _)); refine blk_far ?_ NB312_313.out _; (with_reducible repeat (first | refine blk_drewN ?_ _ | refine blk_drew ?_ | refine blk_alloc ?_ _)); exact BK312.out⟩, ⟨by (with_reducible repeat (first | refine blk_drewN ?_ _ | refine blk_drew ?_ | refine blk_alloc ?_ _)); refine blk_put (cs := #[.int .i64 t315, .bool t316, .int .i64 t317, .string x314003_40]) ?_ 3 _ rfl; (with_reducible repeat (first | refine blk_drewN ?_ _ | refine blk_drew ?_ | refine blk_alloc ?_ _)); refine blk_put (cs := #[.int .i64 t315, .bool t316, .int .i64 x314002_40, .string x314003_40]) ?_ 2 _ rfl; (with_reducible repeat (first | refine blk_drewN ?_ _ | refine blk_drew ?_ | refine blk_alloc ?_ _)); refine blk_put (cs := #[.int .i64 t315, .bool x314001_40, .int .i64 x314002_40, .string x314003_40]) ?_ 1 _ rfl; (with_reducible repeat (first | refine blk_drewN ?_ _ | refine blk_drew ?_ | refine blk_alloc ?_ _)); refine blk_put (cs := #[.int .i64 x314000_40, .bool x314001_40, .int .i64 x314002_40, .string x314003_40]) ?_ 0 _ rfl; (with_reducible repeat (first | refine blk_drewN ?_ _ | refine blk_drew ?_ | refine blk_alloc ?_ _)); exact BK313.out⟩, ⟨by repeat (first | (with_reducible first | exact HB.out | apply below_alloc | apply pw_below_drewN | apply below_drew1 | refine below_set ?_ GE311.out | refine below_set ?_ GE312.out | refine below_set ?_ GE313.out | refine below_set ?_ GE319.out) | exact HB.out)⟩⟩
                                · rw [if_neg c141] at H
                                  have c141b0 : decide (0 < t322) = false := decide_eq_false c141
                                  clear c141
                                  have H' := Aside0.mk H
                                  clear H
                                  have hnb154 := NB311_312.out
                                  have hnc154 := NB312_311.out
                                  have hnb155 := NB311_313.out
                                  have hnc155 := NB313_311.out
                                  have hnb156 := NB311_319.out
                                  have hnc156 := NB319_311.out
                                  have hcz157_0 : wc.cell? ⟨gb311, 0, none⟩ = some (.int .i64 a1_0) := (blk_cell BK311.out 0).trans rfl
                                  have hcz157_1 : wc.cell? ⟨gb311, 1, none⟩ = some (.int .i64 a1_1) := (blk_cell BK311.out 1).trans rfl
                                  have hfz157_0 := blk_frozen BK311.out 0
                                  have hfz157_1 := blk_frozen BK311.out 1
                                  have hnb158 := NB313_312.out
                                  have hnc158 := NB312_313.out
                                  have hnb159 := NB313_319.out
                                  have hnc159 := NB319_313.out
                                  have hcz160_0 : wc.cell? ⟨gb313, 0, none⟩ = some (.int .i64 x314000_40) := (blk_cell BK313.out 0).trans rfl
                                  have hcz160_1 : wc.cell? ⟨gb313, 1, none⟩ = some (.bool x314001_40) := (blk_cell BK313.out 1).trans rfl
                                  have hcz160_2 : wc.cell? ⟨gb313, 2, none⟩ = some (.int .i64 x314002_40) := (blk_cell BK313.out 2).trans rfl
                                  have hcz160_3 : wc.cell? ⟨gb313, 3, none⟩ = some (.string x314003_40) := (blk_cell BK313.out 3).trans rfl
                                  have hfz160_0 := blk_frozen BK313.out 0
                                  have hfz160_1 := blk_frozen BK313.out 1
                                  have hfz160_2 := blk_frozen BK313.out 2
                                  have hfz160_3 := blk_frozen BK313.out 3
                                  have hnb161 := NB319_312.out
                                  have hnc161 := NB312_319.out
                                  have hcz162_0 : wc.cell? ⟨gb319, 0, none⟩ = some (.int .i64 t315) := (blk_cell BK319.out 0).trans rfl
                                  have hcz162_1 : wc.cell? ⟨gb319, 1, none⟩ = some (.bool t316) := (blk_cell BK319.out 1).trans rfl
                                  have hcz162_2 : wc.cell? ⟨gb319, 2, none⟩ = some (.int .i64 t317) := (blk_cell BK319.out 2).trans rfl
                                  have hcz162_3 : wc.cell? ⟨gb319, 3, none⟩ = some (.string t318) := (blk_cell BK319.out 3).trans rfl
                                  have hfz162_0 := blk_frozen BK319.out 0
                                  have hfz162_1 := blk_frozen BK319.out 1
                                  have hfz162_2 := blk_frozen BK319.out 2
                                  have hfz162_3 := blk_frozen BK319.out 3
                                  go_wp2_with (first | (go_at_call 20; (with_reducible refine (hayloftref02_Compare.calls t315 t316 t317 t318 x314000_40 x314001_40 x314002_40 x314003_40 t322 _ A140.out).mono ?_); rintro e w163 ⟨rfl, hb⟩; have n0_ := Aside0.mk (blk_below (g := gb311) (o := .cells #[.int .i64 a1_0, .int .i64 a1_1] 48 (0, 0)) (by (with_reducible repeat (first | refine blk_drewN ?_ _ | refine blk_drew ?_ | refine blk_alloc ?_ _)); exact BK311.out) hb); have n1_ := Aside0.mk (blk_below (g := gb312) (o := .cells #[.int .i64 0, .bool false, .int .i64 0, .string (⟨#[]⟩ : ByteArray)] 42 (0, 0)) (by (with_reducible repeat (first | refine blk_drewN ?_ _ | refine blk_drew ?_ | refine blk_alloc ?_ _)); exact BK312.out) hb); have n2_ := Aside0.mk (blk_below (g := gb313) (o := .cells #[.int .i64 x314000_40, .bool x314001_40, .int .i64 x314002_40, .string x314003_40] 42 (0, 0)) (by (with_reducible repeat (first | refine blk_drewN ?_ _ | refine blk_drew ?_ | refine blk_alloc ?_ _)); exact BK313.out) hb); have n3_ := Aside0.mk (blk_below (g := gb319) (o := .cells #[.int .i64 t315, .bool t316, .int .i64 t317, .string t318] 42 (0, 0)) (by (with_reducible repeat (first | refine blk_drewN ?_ _ | refine blk_drew ?_ | refine blk_alloc ?_ _)); exact BK319.out) hb); have n4_ := Aside0.mk (below_step (by repeat (first | (with_reducible first | exact HB.out | apply below_alloc | apply pw_below_drewN | apply below_drew1 | refine below_set ?_ GE311.out | refine below_set ?_ GE312.out | refine below_set ?_ GE313.out | refine below_set ?_ GE319.out) | exact HB.out)) hb); clear BK311; clear BK312; clear BK313; clear BK319; clear HB; have BK311 := n0_; have BK312 := n1_; have BK313 := n2_; have BK319 := n3_; have HB := n4_; clear n0_ n1_ n2_ n3_ n4_; (try clear hb); (try clear hb2); (try clear hk); (try clear hi)))
                                  go_roundg kj54
                                  case measure => have := HK1.out; have := HJ19.out; have := HJ40.out; have := HJ54.out; omega
                                  case rel => exact ⟨(wrap64 (x6_1 + 1)), (x314000_40), (x314001_40), (x314002_40), (x314003_40), (by first | rfl | (simp; done) | (simp [*]; done)), H', ⟨by have := HK1.out; have := HJ19.out; have := HJ40.out; have := HJ54.out; omega⟩, ⟨by (with_reducible repeat (first | refine blk_drewN ?_ _ | refine blk_drew ?_ | refine blk_alloc ?_ _)); exact BK311.out⟩, ⟨by (with_reducible repeat (first | refine blk_drewN ?_ _ | refine blk_drew ?_ | refine blk_alloc ?_ _)); exact BK312.out⟩, ⟨by (with_reducible repeat (first | refine blk_drewN ?_ _ | refine blk_drew ?_ | refine blk_alloc ?_ _)); exact BK313.out⟩, ⟨by repeat (first | (with_reducible first | exact HB.out | apply below_alloc | apply pw_below_drewN | apply below_drew1 | refine below_set ?_ GE311.out | refine below_set ?_ GE312.out | refine below_set ?_ GE313.out | refine below_set ?_ GE319.out) | exact HB.out)⟩⟩
                            · rw [if_neg c129] at H
                              have c129b0 : (a1_0 == 3) = false := beq_eq_false_iff_ne.mpr c129
                              have c129b1 : (a1_0 != 3) = true := bne_iff_ne.mpr c129
                              have H' := Aside0.mk H
                              clear H
                              have hnb164 := NB311_312.out
                              have hnc164 := NB312_311.out
                              have hnb165 := NB311_313.out
                              have hnc165 := NB313_311.out
                              have hnb166 := NB311_319.out
                              have hnc166 := NB319_311.out
                              have hcz167_0 : wc.cell? ⟨gb311, 0, none⟩ = some (.int .i64 a1_0) := (blk_cell BK311.out 0).trans rfl
                              have hcz167_1 : wc.cell? ⟨gb311, 1, none⟩ = some (.int .i64 a1_1) := (blk_cell BK311.out 1).trans rfl
                              have hfz167_0 := blk_frozen BK311.out 0
                              have hfz167_1 := blk_frozen BK311.out 1
                              go_wp2
                              go_roundg kj54
                              case measure => have := HK1.out; have := HJ19.out; have := HJ40.out; have := HJ54.out; omega
                              case rel => exact ⟨(wrap64 (x6_1 + 1)), (x314000_40), (x314001_40), (x314002_40), (x314003_40), (by first | rfl | (simp; done) | (simp [*]; done)), H', ⟨by have := HK1.out; have := HJ19.out; have := HJ40.out; have := HJ54.out; omega⟩, ⟨by (with_reducible repeat (first | refine blk_drewN ?_ _ | refine blk_drew ?_ | refine blk_alloc ?_ _)); exact BK311.out⟩, ⟨by (with_reducible repeat (first | refine blk_drewN ?_ _ | refine blk_drew ?_ | refine blk_alloc ?_ _)); exact BK312.out⟩, ⟨by (with_reducible repeat (first | refine blk_drewN ?_ _ | refine blk_drew ?_ | refine blk_alloc ?_ _)); exact BK313.out⟩, ⟨by repeat (first | (with_reducible first | exact HB.out | apply below_alloc | apply pw_below_drewN | apply below_drew1 | refine below_set ?_ GE311.out | refine below_set ?_ GE312.out | refine below_set ?_ GE313.out | refine below_set ?_ GE319.out) | exact HB.out)⟩⟩
          · rw [if_neg c18] at H
            exact absurd H (by simp)
        · rw [if_neg c17] at H
          have c17b0 : decide (x6_1 < (l0.length : Int)) = false := decide_eq_false c17
          clear c17
          simp only [Option.some.injEq, Prod.mk.injEq] at H
          obtain ⟨rfl, rfl, rfl, rfl⟩ := H
          have hnb168 := NB313_311.out
          have hnc168 := NB311_313.out
          have hnb169 := NB313_312.out
          have hnc169 := NB312_313.out
          have hcz170_0 : wr.cell? ⟨gb313, 0, none⟩ = some (.int .i64 x314000_1) := (blk_cell BK313.out 0).trans rfl
          have hcz170_1 : wr.cell? ⟨gb313, 1, none⟩ = some (.bool x314001_1) := (blk_cell BK313.out 1).trans rfl
          have hcz170_2 : wr.cell? ⟨gb313, 2, none⟩ = some (.int .i64 x314002_1) := (blk_cell BK313.out 2).trans rfl
          have hcz170_3 : wr.cell? ⟨gb313, 3, none⟩ = some (.string x314003_1) := (blk_cell BK313.out 3).trans rfl
          have hfz170_0 := blk_frozen BK313.out 0
          have hfz170_1 := blk_frozen BK313.out 1
          have hfz170_2 := blk_frozen BK313.out 2
          have hfz170_3 := blk_frozen BK313.out 3
          have hnb171 := NB312_311.out
          have hnc171 := NB311_312.out
          have hcz172_0 : wr.cell? ⟨gb312, 0, none⟩ = some (.int .i64 0) := (blk_cell BK312.out 0).trans rfl
          have hcz172_1 : wr.cell? ⟨gb312, 1, none⟩ = some (.bool false) := (blk_cell BK312.out 1).trans rfl
          have hcz172_2 : wr.cell? ⟨gb312, 2, none⟩ = some (.int .i64 0) := (blk_cell BK312.out 2).trans rfl
          have hcz172_3 : wr.cell? ⟨gb312, 3, none⟩ = some (.string (⟨#[]⟩ : ByteArray)) := (blk_cell BK312.out 3).trans rfl
          have hfz172_0 := blk_frozen BK312.out 0
          have hfz172_1 := blk_frozen BK312.out 1
          have hfz172_2 := blk_frozen BK312.out 2
          have hfz172_3 := blk_frozen BK312.out 3
          go_wp2
          refine bodyPost_ret (results_cell_row rfl _ _ gb312 42 #[.int .i64 x314000_1, .bool x314001_1, .int .i64 x314002_1, .string x314003_1] (0, 0) _ rfl (by (with_reducible repeat (first | refine blk_drewN ?_ _ | refine blk_drew ?_ | refine blk_alloc ?_ _)); refine blk_put (cs := #[.int .i64 x314000_1, .bool x314001_1, .int .i64 x314002_1, .string (⟨#[]⟩ : ByteArray)]) ?_ 3 _ rfl; (with_reducible repeat (first | refine blk_drewN ?_ _ | refine blk_drew ?_ | refine blk_alloc ?_ _)); refine blk_put (cs := #[.int .i64 x314000_1, .bool x314001_1, .int .i64 0, .string (⟨#[]⟩ : ByteArray)]) ?_ 2 _ rfl; (with_reducible repeat (first | refine blk_drewN ?_ _ | refine blk_drew ?_ | refine blk_alloc ?_ _)); refine blk_put (cs := #[.int .i64 x314000_1, .bool false, .int .i64 0, .string (⟨#[]⟩ : ByteArray)]) ?_ 1 _ rfl; (with_reducible repeat (first | refine blk_drewN ?_ _ | refine blk_drew ?_ | refine blk_alloc ?_ _)); refine blk_put (cs := #[.int .i64 0, .bool false, .int .i64 0, .string (⟨#[]⟩ : ByteArray)]) ?_ 0 _ rfl; (with_reducible repeat (first | refine blk_drewN ?_ _ | refine blk_drew ?_ | refine blk_alloc ?_ _)); exact BK312.out) Try.underlying42 rfl (by kernel_rfl)) rfl ?_
          exact ⟨by first | rfl | (simp [errW_none, errW_some] <;> rfl) | (simp [*, errW_none, errW_some] <;> rfl), by repeat (first | (with_reducible first | exact HB.out | apply below_alloc | apply pw_below_drewN | apply below_drew1 | refine below_set ?_ GE311.out | refine below_set ?_ GE312.out | refine below_set ?_ GE313.out) | exact HB.out)⟩

end Go.Proofs.Ytghblnldokpceaa.QV
/- What hayloftref15.keys and agg tell, as printed; the document's groups in plain Lean. -/
namespace Go.Proofs.Ytghblnldokpceaa.QV
open Go.RowKit Go.Proofs.YtghblnldokpceaaW.PrintWords Go.Proofs.Ytghblnldokpceaa.Op Go.Proofs.Ytghblnldokpceaa.Stab
set_option linter.unusedVariables false
set_option linter.unusedSimpArgs false
theorem insK_skip : ∀ (n : Nat) (K : List Row) (k : Row), n ≤ K.length → (∀ x ∈ K.take n, ordK x k < 0) → insK K k = K.take n ++ insK (K.drop n) k
  | 0, K, k, _, _ => by simp
  | n + 1, [], k, h, _ => by simp at h
  | n + 1, h0 :: t, k, h, hl => by
    rw [insK, if_pos (hl h0 (by simp)), insK_skip n t k (by simpa using h) (fun x hx => hl x (by simp [hx]))]
    simp
theorem insK_len : ∀ (K : List Row) (k : Row), (insK K k).length ≤ K.length + 1
  | [], k => by simp [insK]
  | h :: t, k => by
    rw [insK]
    split
    · have := insK_len t k; simp; omega
    · split <;> simp
theorem keys_inner (rows : List Row) (by' : List Int) (i : Nat) (hi : i < rows.length) (hn : rows.length < 5864062014805) (out : List Row) (ho : out.length ≤ i) (key : Row) (R : List Row) (hR : Ev (fun k => hayloftref15_keys.l0 k rows by' (insK out key) ((i + 1 : Nat) : Int)) R) :
    ∀ (d n : Nat), n + d = out.length → (∀ x ∈ out.take n, ordK x key < 0) → Ev (fun k => hayloftref15_keys.l1 k rows by' out (i : Int) key (n : Int)) R := by
  have hw : wrap64 ((i : Int) + 1) = ((i + 1 : Nat) : Int) := by unfold wrap64; omega
  intro d
  induction d with
  | zero =>
    intro n hd hl
    have hin : insK out key = out ++ [key] := by
      rw [insK_skip n out key (by omega) hl, List.drop_of_length_le (by omega), List.take_of_length_le (by omega)]; rfl
    rw [hin] at hR
    refine Ev.step (fun k => ?_) hR
    simp only [hayloftref15_keys.l1, hw]
    rw [if_neg (by omega), if_pos (by omega), if_pos (by omega)]
    have h1 : out.take (n : Int).toNat = out := List.take_of_length_le (by omega)
    have h2 : out.drop (n : Int).toNat = [] := List.drop_of_length_le (by omega)
    simp only [h1, h2, Option.bind_some, List.nil_append, List.length_nil, List.length_append, List.length_singleton, List.append_nil]
    rw [if_pos (by omega), if_pos (by omega), if_pos (by omega)]
  | succ d ih =>
    intro n hd hl
    have hw2 : wrap64 ((n : Int) + 1) = ((n + 1 : Nat) : Int) := by unfold wrap64; omega
    have hdg := drop_get ([] : Row) out n (by omega)
    have hts := take_snoc' ([] : Row) out n (by omega)
    have hra : rd_L4 out (n : Int) = out.getD n [] := rfl
    have hsk := insK_skip n out key (by omega) hl
    rw [hdg] at hsk
    generalize out.getD n [] = y at *
    have hrw : hayloftref02_Rows.f y key = some (ordK y key) := rfl
    rw [insK] at hsk
    by_cases h0 : ordK y key < 0
    · have hih := ih (n + 1) (by omega) (fun x hx => by
        rw [← hts] at hx
        rcases List.mem_append.1 hx with hx | hx
        · exact hl x hx
        · rw [List.mem_singleton.1 hx]; exact h0)
      refine Ev.step (fun k => ?_) hih
      simp only [hayloftref15_keys.l1, hra, hrw, hw2, Option.bind_some]
      rw [if_pos (by omega), if_pos (by omega), if_pos h0]
    · rw [if_neg h0] at hsk
      by_cases hz : ordK y key = 0
      · rw [if_pos hz] at hsk
        have : insK out key = out := by rw [hsk, ← hdg, List.take_append_drop]
        rw [this] at hR
        refine Ev.step (fun k => ?_) hR
        simp only [hayloftref15_keys.l1, hra, hrw, hw, Option.bind_some]
        rw [if_pos (by omega), if_pos (by omega), if_neg h0, if_pos hz]
      · rw [if_neg hz, ← hdg] at hsk
        rw [hsk] at hR
        refine Ev.step (fun k => ?_) hR
        simp only [hayloftref15_keys.l1, hra, hrw, hw, Option.bind_some, Int.toNat_natCast, List.nil_append, List.length_nil, List.length_append, List.length_singleton, List.length_take, List.length_drop]
        rw [if_pos (by omega), if_pos (by omega), if_neg h0, if_neg hz, if_pos (by omega), if_pos (by omega), if_pos (by omega), if_pos (by omega)]
        simp
def keysS (by' : List Int) (rows : List Row) : List Row := rows.foldl (fun K r => insK K (pickS r by')) []
theorem keysS_snoc (by' : List Int) (rows : List Row) (r : Row) : keysS by' (rows ++ [r]) = insK (keysS by' rows) (pickS r by') := by simp [keysS]
theorem keysS_len (by' : List Int) (rows : List Row) : (keysS by' rows).length ≤ rows.length := by
  have gen : ∀ (l : List Row) (K : List Row), (l.foldl (fun K r => insK K (pickS r by')) K).length ≤ K.length + l.length := by
    intro l
    induction l with
    | nil => intro K; simp
    | cons r l ih =>
      intro K
      have h := ih (insK K (pickS r by'))
      have := insK_len K (pickS r by')
      simp only [List.foldl_cons, List.length_cons]
      omega
  simpa [keysS] using gen rows []
theorem keys_loop (rows : List Row) (by' : List Int) (hm : by'.length < 3518437208883) (hn : rows.length < 5864062014805) : ∀ (d i : Nat), i + d = rows.length → Ev (fun k => hayloftref15_keys.l0 k rows by' (keysS by' (rows.take i)) (i : Int)) (keysS by' rows) := by
  intro d
  induction d with
  | zero =>
    intro i hi
    refine Ev.step (f := fun _ => some (keysS by' rows)) (fun k => ?_) (Ev.now _)
    simp only [hayloftref15_keys.l0]
    rw [if_neg (by omega), List.take_of_length_le (by omega)]
  | succ d ih =>
    intro i hi
    have hts := take_snoc' ([] : Row) rows i (by omega)
    have hra : rd_L4 rows (i : Int) = rows.getD i [] := rfl
    have hl : (keysS by' (rows.take i)).length ≤ i := Nat.le_trans (keysS_len _ _) (by simp; omega)
    have hih := ih (i + 1) (by omega)
    rw [← hts, keysS_snoc] at hih
    generalize rows.getD i [] = x at *
    have hin := keys_inner rows by' i (by omega) hn (keysS by' (rows.take i)) hl (pickS x by') _ hih (keysS by' (rows.take i)).length 0 (by omega) (by simp)
    refine Ev.step (f := fun k => (hayloftref15_Pick.f k x by').bind fun t => hayloftref15_keys.l1 k rows by' (keysS by' (rows.take i)) (i : Int) t 0) (fun k => ?_) ?_
    · simp only [hayloftref15_keys.l0, hra]
      rw [if_pos (by omega), if_pos (by omega)]
    · exact (pick_f x by' hm).bind hin
theorem keys_f (rows : List Row) (by' : List Int) (hm : by'.length < 3518437208883) (hn : rows.length < 5864062014805) : ∃ k, hayloftref15_keys.f k rows by' = some (keysS by' rows) := by
  have h := keys_loop rows by' hm hn rows.length 0 (by omega)
  exact h.rounds

def tupV (v : S') : Int × Bool × Int × ByteArray := (v.f0, v.f1, v.f2, v.f3)
theorem agg_loop (rows : List Row) (a : Ag) (hn : rows.length ≤ 9223372036854775806) : ∀ (d i : Nat) (out : S'), i + d = rows.length → Ev (fun k => hayloftref15_agg.l0 k rows (i : Int) a.f0 a.f1 out.f0 out.f1 out.f2 out.f3) (tupV (((rows.drop i).map (fun r => atS r a.f1)).foldl (aggStep a) out)) := by
  intro d
  induction d with
  | zero =>
    intro i out hi
    rw [List.drop_of_length_le (by omega)]
    refine Ev.step (f := fun _ => some (tupV out)) (fun k => ?_) (Ev.now _)
    simp only [hayloftref15_agg.l0]
    rw [if_neg (by omega)]
    rfl
  | succ d ih =>
    intro i out hi
    have hw : wrap64 ((i : Int) + 1) = ((i + 1 : Nat) : Int) := by unfold wrap64; omega
    have hra : rd_L4 rows (i : Int) = rows.getD i [] := rfl
    rw [drop_get ([] : Row) rows i (by omega), List.map_cons, List.foldl_cons]
    generalize rows.getD i [] = x at hra
    have hax := refAt_f x a.f1
    obtain ⟨v, hv⟩ : ∃ v, atS x a.f1 = v := ⟨_, rfl⟩
    rw [hv] at hax ⊢
    have hih := ih (i + 1) (aggStep a out v) (by omega)
    obtain ⟨o1, ho1⟩ : ∃ o1 : S', (if a.f0 = 1 ∧ v.f0 = 2 then numV (wrap64 (out.f2 + v.f2)) else out) = o1 := ⟨_, rfl⟩
    have hst : aggStep a out v = if v.f0 = 0 then o1 else
        (if a.f0 = 3 ∧ ((if a.f0 = 2 ∧ (o1.f0 = 0 ∨ cmpV (toV v) (toV o1) < 0) then v else o1).f0 = 0 ∨ 0 < cmpV (toV v) (toV (if a.f0 = 2 ∧ (o1.f0 = 0 ∨ cmpV (toV v) (toV o1) < 0) then v else o1))) then v else (if a.f0 = 2 ∧ (o1.f0 = 0 ∨ cmpV (toV v) (toV o1) < 0) then v else o1)) := by
      rw [← ho1]; rfl
    rw [hst] at hih ⊢
    obtain ⟨n, hnn⟩ : ∃ n, cmpV (toV v) (toV o1) = n := ⟨_, rfl⟩
    have hcv : hayloftref02_Compare.f v.f0 v.f1 v.f2 v.f3 o1.f0 o1.f1 o1.f2 o1.f3 = some n := by rw [← hnn]; rfl
    have hcs : hayloftref02_Compare.f v.f0 v.f1 v.f2 v.f3 v.f0 v.f1 v.f2 v.f3 = some 0 := by
      show some (cmpV (toV v) (toV v)) = some 0
      rw [cmpV_self]
    rw [hnn] at hih ⊢
    have g1 : ∀ (k : Nat) (b : Bool), b = (if a.f0 = 1 then v.f0 == 2 else false) → hayloftref15_agg.j1 (k + 1) rows (i : Int) b a.f0 a.f1 out.f0 out.f1 out.f2 out.f3 v.f0 v.f1 v.f2 v.f3 = hayloftref15_agg.j2 k rows (i : Int) a.f0 a.f1 o1.f0 o1.f1 o1.f2 o1.f3 v.f0 v.f1 v.f2 v.f3 := by
      intro k b hb
      simp only [hayloftref15_agg.j1]
      by_cases h1 : a.f0 = 1
      · by_cases h2 : v.f0 = 2
        · rw [if_pos ⟨h1, h2⟩] at ho1
          rw [hb, if_pos h1, h2, if_pos (by rfl), ← ho1]
          rfl
        · rw [if_neg (fun h => h2 h.2)] at ho1
          rw [hb, if_pos h1, if_neg (by simpa using h2), ← ho1]
      · rw [if_neg (fun h => h1 h.1)] at ho1
        rw [hb, if_neg h1, if_neg (by simp), ← ho1]
    clear ho1 hst
    refine Ev.step (f := fun k => hayloftref15_agg.j1 k rows (i : Int) (if a.f0 = 1 then v.f0 == 2 else false) a.f0 a.f1 out.f0 out.f1 out.f2 out.f3 v.f0 v.f1 v.f2 v.f3) (fun k => ?_) ?_
    · simp only [hayloftref15_agg.l0, hra, hax, Option.bind_some]
      rw [if_pos (by omega), if_pos (by omega)]
      split <;> rfl
    refine Ev.step (fun k => g1 k _ rfl) ?_
    clear g1 hax hra hv
    by_cases hz : v.f0 = 0
    · rw [if_pos hz] at hih ⊢
      refine Ev.step (fun k => ?_) hih
      simp only [hayloftref15_agg.j2, hw]
      rw [if_pos hz]
    · rw [if_neg hz] at hih ⊢
      refine Ev.step (f := fun k => hayloftref15_agg.j3 k rows (i : Int) (decide (a.f0 = 2 ∧ (o1.f0 = 0 ∨ n < 0))) a.f0 a.f1 o1.f0 o1.f1 o1.f2 o1.f3 v.f0 v.f1 v.f2 v.f3) (fun k => ?_) ?_
      · simp only [hayloftref15_agg.j2, hw, hcv, Option.bind_some]
        rw [if_neg hz]
        by_cases h2 : a.f0 = 2
        · rw [if_pos h2]
          by_cases ho : o1.f0 = 0
          · rw [if_pos ho, decide_eq_true ⟨h2, .inl ho⟩]
          · rw [if_neg ho]
            congr 1
            simp [h2, ho]
        · rw [if_neg h2, decide_eq_false (fun h => h2 h.1)]
      · by_cases hb : a.f0 = 2 ∧ (o1.f0 = 0 ∨ n < 0)
        · have h3 : ¬ a.f0 = 3 := by omega
          rw [if_neg (fun h => h3 h.1), if_pos hb] at hih ⊢
          refine Ev.step (fun k => ?_) hih
          simp only [hayloftref15_agg.j3, hw]
          rw [decide_eq_true hb, if_pos rfl, if_neg h3]
        · rw [if_neg hb] at hih ⊢
          by_cases h3 : a.f0 = 3
          · rw [hnn] at hih ⊢
            by_cases ho : o1.f0 = 0
            · rw [if_pos ⟨h3, .inl ho⟩] at hih ⊢
              refine Ev.step (fun k => ?_) hih
              simp only [hayloftref15_agg.j3, hw]
              rw [decide_eq_false hb, if_neg (by simp), if_pos h3, if_pos ho]
            · by_cases hp : 0 < n
              · rw [if_pos ⟨h3, .inr hp⟩] at hih ⊢
                refine Ev.step (fun k => ?_) hih
                simp only [hayloftref15_agg.j3, hw, hcv, Option.bind_some]
                rw [decide_eq_false hb, if_neg (by simp), if_pos h3, if_neg ho, if_pos (by omega)]
              · rw [if_neg (fun h => by rcases h.2 with h | h; exact ho h; exact hp h)] at hih ⊢
                refine Ev.step (fun k => ?_) hih
                simp only [hayloftref15_agg.j3, hw, hcv, Option.bind_some]
                rw [decide_eq_false hb, if_neg (by simp), if_pos h3, if_neg ho, if_neg (by omega)]
          · rw [if_neg (fun h => h3 h.1)] at hih ⊢
            refine Ev.step (fun k => ?_) hih
            simp only [hayloftref15_agg.j3, hw]
            rw [decide_eq_false hb, if_neg (by simp), if_neg h3]
theorem agg_f (rows : List Row) (a : Ag) (hn : rows.length ≤ 9223372036854775806) : ∃ k, hayloftref15_agg.f k rows a.f0 a.f1 = some ((toldS a rows).f0, (toldS a rows).f1, (toldS a rows).f2, (toldS a rows).f3) := by
  rw [← told_agg]
  unfold hayloftref15_agg.f aggS
  by_cases h0 : a.f0 = 0
  · exact ⟨0, by rw [if_pos h0, if_pos h0]; rfl⟩
  · rw [if_neg h0]
    simp only [if_neg h0]
    have h := agg_loop rows a hn rows.length 0 zV (by omega)
    exact h.rounds
/-- The keys as the document has them: without columns there is just one group. -/
def keysD (by' : List Int) (rows : List Row) : List Row := if by' = [] then [[]] else keysS by' rows
theorem groups_keys (by' : List Int) (rows : List Row) : (groupsL by' rows).map (·.1) = keysD by' rows := by
  have gen : ∀ (l : List Row) (G : List Grp) (K : List Row), G.map (·.1) = K → (l.foldl (fun G r => addG G (pickS r by') r) G).map (·.1) = l.foldl (fun K r => insK K (pickS r by')) K := by
    intro l
    induction l with
    | nil => intro G K h; exact h
    | cons r l ih => intro G K h; exact ih _ _ (by rw [addG_keys, h])
  unfold keysD groupsL startG
  by_cases h : by' = []
  · subst h
    simp only [if_true]
    rw [gen rows _ [[]] rfl]
    have : ∀ (l : List Row), l.foldl (fun K r => insK K (pickS r [])) [[]] = [[]] := by
      intro l
      induction l with
      | nil => rfl
      | cons r l ih =>
        rw [List.foldl_cons]
        have : insK [[]] (pickS r []) = [[]] := by simp [insK, pickS, ordK, rowsV]
        rw [this, ih]
    exact this rows
  · simp only [if_neg h]
    exact gen rows [] [] rfl
theorem groupL_doc (by' : List Int) (aggs : List Ag) (rows : List Row) : groupL by' aggs rows = (keysD by' rows).map (fun k => k ++ aggs.map (fun a => toldS a (rows.filter (mineB by' k)))) := by
  unfold groupL
  rw [← groups_keys, List.map_map]
  refine List.map_congr_left (fun g hg => ?_)
  show g.1 ++ aggs.map (fun a => toldS a g.2) = g.1 ++ aggs.map (fun a => toldS a (rows.filter (mineB by' g.1)))
  rw [← (groupsL_inv by' rows).mine g hg]
theorem keysD_len (by' : List Int) (rows : List Row) : (keysD by' rows).length ≤ rows.length + 1 := by
  unfold keysD
  split
  · simp
  · have := keysS_len by' rows; omega
theorem keysD_klen (by' : List Int) (rows : List Row) : ∀ k ∈ keysD by' rows, k.length = by'.length := by
  intro k hk
  rw [← groups_keys] at hk
  obtain ⟨g, hg, rfl⟩ := List.mem_map.1 hk
  exact groupsL_klen by' rows g hg
end Go.Proofs.Ytghblnldokpceaa.QV
/- The groups that exec.Group gathers, in memory: which blocks are whose (o: 0 the box, 1 the groups' row, 2 the keys, a group's tag: its rows). -/
namespace Go.Proofs.Ytghblnldokpceaa.QV
open Go.RowKit Go.Proofs.YtghblnldokpceaaW.PrintWords Go.Proofs.Ytghblnldokpceaa.Seq Go.Shelf Go.Proofs.Ytghblnldokpceaa.Op Go.Proofs.Ytghblnldokpceaa.Stab
set_option linter.unusedVariables false
set_option linter.unusedSimpArgs false
theorem GA.step {W V : World} {base : Nat} {v : Value} {a : List Raw} (h : GA W base v a) (hk : ∀ k, v.ownBlock = some k → V.heap[k]? = W.heap[k]?) : GA V base v a := by
  obtain ⟨⟨h0, h1⟩, h2⟩ := h
  refine ⟨⟨h0, ?_⟩, h2⟩
  rcases h1 with h | ⟨g, cap, cur, hv, hgb, hg, r⟩
  · exact .inl h
  · exact .inr ⟨g, cap, cur, hv, hgb, by rw [hk g (by rw [hv]; rfl)]; exact hg, r⟩
theorem fl_set1 : ∀ (a : List Raw) (i : Nat) (u : Value), i < a.length → (fl a).set (i * 2 + 1) u = fl (a.set i ((a.getD i (.nilFunc, .nilFunc)).1, u))
  | [], i, u, h => by simp at h
  | x :: a, 0, u, _ => by simp [fl]
  | x :: a, i + 1, u, h => by
    have e : (x :: a).getD (i + 1) (.nilFunc, .nilFunc) = a.getD i (.nilFunc, .nilFunc) := by simp [List.getD_eq_getElem?_getD]
    rw [e, Nat.succ_mul, show i * 2 + 2 + 1 = (i * 2 + 1) + 1 + 1 by omega]
    simp [fl, fl_set1 a i u (by simpa using h)]
/-- The second cell of element i stored. -/
theorem GA.set1 {W : World} {base gb n cap : Nat} {a : List Raw} (h : GA W base (.slice (some ⟨gb, 0, none⟩) n cap) a) (i : Nat) (hi : i < a.length) (u : Value) (hu : u.oneCell' = true) :
    GA (W.setCell ⟨gb, i * 2 + 1, none⟩ u) base (.slice (some ⟨gb, 0, none⟩) n cap) (a.set i ((a.getD i (.nilFunc, .nilFunc)).1, u)) := by
  obtain ⟨⟨h0, h1⟩, h2⟩ := h
  have hx : One (a.getD i (.nilFunc, .nilFunc)) := h2 _ (getD_mem _ hi)
  refine ⟨⟨by rw [fl_length], ?_⟩, fun x hx' => ?_⟩
  · rcases h1 with h | ⟨g, cap', cur, hv, hgb, hg, h3, h4, h5, h6⟩
    · have := h.2; omega
    · injection hv with e1 e2 e3
      injection e1 with e1
      injection e1 with e1
      subst e1
      refine .inr ⟨gb, cap', cur.setIfInBounds (i * 2 + 1) u, by rw [List.length_set, ← e3, ← e2], hgb, blk_set hg (i * 2 + 1) u, by rw [List.length_set]; exact h3, h4, by simpa using h5, ?_⟩
      rw [List.length_set, Array.toList_setIfInBounds, List.take_set, h6, fl_set1 a i u hi]
  · rcases List.mem_or_eq_of_mem_set hx' with h | h
    · exact h2 x h
    · rw [h]; exact ⟨hx.1, hu⟩
structure GSt (b0 : Nat) (G : List GE) (gv : Value) (o : Nat → Nat) (M : Nat → Prop) (A : World) : Prop where
  box : A.heap[b0]? = some (.cells #[gv] 63 (0, 0))
  mb : M b0
  ob : o b0 = 0
  ga : GA A b0 gv (G.map GE.raw)
  gown : ∀ k, gv.ownBlock = some k → M k ∧ o k = 1
  tag3 : ∀ g ∈ G, 3 ≤ g.tag
  tags : G.Pairwise (fun a b => a.tag ≠ b.tag)
  keys : ∀ g ∈ G, kS.R tS A b0 (fun k => M k ∧ o k = 2) (.slice g.ka g.key.length g.kc) g.key
  rows : ∀ g ∈ G, kRows.R tRow A b0 (fun k => M k ∧ o k = g.tag) (.slice g.ra g.rows.length g.rc) g.rows
  mlt : ∀ k, M k → b0 ≤ k ∧ k < A.heap.size
section
variable {b0 : Nat} {G : List GE} {gv : Value} {o : Nat → Nat} {M : Nat → Prop} {A B C D : World}
theorem GSt.kept (h : GSt b0 G gv o M A) (hs : A.heap.size ≤ B.heap.size) (hk : ∀ k, M k → B.heap[k]? = A.heap[k]?) : GSt b0 G gv o M B :=
  ⟨by rw [hk _ h.mb]; exact h.box, h.mb, h.ob, h.ga.step (fun k e => hk k (h.gown k e).1), h.gown, h.tag3, h.tags, fun g hg => Kd.R_move (h.keys g hg) (fun k e => hk k e.1), fun g hg => Kd.R_move (h.rows g hg) (fun k e => hk k e.1), fun k e => ⟨(h.mlt k e).1, Nat.lt_of_lt_of_le (h.mlt k e).2 hs⟩⟩
theorem GSt.below (h : GSt b0 G gv o M A) (hb : Below A.heap.size A B) : GSt b0 G gv o M B := h.kept hb.size (fun k e => hb.block k (h.mlt k e).2)
theorem GSt.slice (h : GSt b0 G gv o M A) : ∃ Ad c, gv = .slice Ad G.length c ∧ G.length ≤ c := by
  obtain ⟨Ad, c, e⟩ := own_slice h.ga.1
  have := own_le (by rw [e] at h; exact h.ga.1)
  rw [List.length_map] at e this
  exact ⟨Ad, c, e, this⟩
theorem GSt.keyOk (h : GSt b0 G gv o M A) : ∀ g ∈ G, KeyOk A g := fun g hg => ⟨(Kd.R_reads' (h.keys g hg)).2.1, (Kd.R_reads' (h.keys g hg)).2.2⟩
theorem GSt.form (h : GSt b0 G gv o M A) (hp : 0 < G.length) : ∃ gb c cur, gv = .slice (some ⟨gb, 0, none⟩) G.length c ∧ G.length ≤ c ∧ A.heap[gb]? = some (.cells cur tG (0, 0)) ∧ cur.size = c * 2 ∧ ∀ i, i < G.length → cur[i * 2]? = some (G.getD i zGE).raw.1 ∧ cur[i * 2 + 1]? = some (G.getD i zGE).raw.2 := by
  obtain ⟨⟨h0, h1⟩, h2⟩ := h.ga
  rcases h1 with h | ⟨g, cap, cur, hv, hgb, hg, h3, h4, h5, h6⟩
  · have := h.2; rw [List.length_map] at this; omega
  · rw [List.length_map] at hv h3 h6
    refine ⟨g, cap, cur, hv, h3, hg, h5, fun i hi => ?_⟩
    have e0 := fl_at0 (G.map GE.raw) i
    have e1 := fl_at1 (G.map GE.raw) i
    rw [← h6, List.getElem?_take, List.getElem?_map, List.getElem?_eq_getElem hi] at e0 e1
    rw [if_pos (by omega), Array.getElem?_toList] at e0 e1
    rw [List.getD_eq_getElem?_getD, List.getElem?_eq_getElem hi]
    exact ⟨e0, e1⟩
theorem GSt.cells (h : GSt b0 G gv o M A) {Ad : Option Addr} {n c : Nat} (e : gv = .slice Ad n c) : CellsG A Ad G := by
  intro i hi
  obtain ⟨gb, c', cur, hv, _, hg, _, hc⟩ := h.form (by omega)
  rw [e] at hv
  injection hv with hv
  refine ⟨_, hv, ?_, ?_⟩
  · rw [add_plain, blk_cell hg]; exact (hc i hi).1
  · rw [add_plain]
    show A.cell? ⟨gb, i * 2 + 1, none⟩ = _
    rw [blk_cell hg]; exact (hc i hi).2
theorem fresh_tag (G : List GE) : ∃ t, 3 ≤ t ∧ ∀ g ∈ G, g.tag ≠ t := by
  have : ∃ t, 3 ≤ t ∧ ∀ g ∈ G, g.tag < t := by
    induction G with
    | nil => exact ⟨3, Nat.le_refl _, by simp⟩
    | cons g G ih =>
      obtain ⟨t, h3, h⟩ := ih
      refine ⟨max t (g.tag + 1), by omega, fun x hx => ?_⟩
      rcases List.mem_cons.1 hx with rfl | hx
      · omega
      · have := h x hx; omega
  obtain ⟨t, h3, h⟩ := this
  exact ⟨t, h3, fun g hg => by have := h g hg; omega⟩
/-- A new group laid in at place i. -/
theorem GSt.insert (h : GSt b0 G gv o M A) (hAB : Below A.heap.size A B) (i : Nat) (k : Row) (KB : Option Addr) (kc : Nat) (v' : Value) (t : Nat) (ht3 : 3 ≤ t) (ht : ∀ g ∈ G, g.tag ≠ t)
    (hk : kS.R tS B A.heap.size (fun _ => True) (.slice KB k.length kc) k) (hG : GA C b0 v' ((G.map GE.raw).take i ++ (.slice KB k.length kc, .slice none 0 0) :: (G.map GE.raw).drop i))
    (hg : B.grownBy C gv.ownBlock) (hv : v'.ownBlock = gv.ownBlock ∨ ∃ b, v'.ownBlock = some b ∧ B.heap.size ≤ b) :
    GSt b0 (G.take i ++ ⟨k, [], KB, kc, none, 0, t⟩ :: G.drop i) v' (fun j => if j < A.heap.size then o j else if j < B.heap.size then 2 else 1) (fun j => (M j ∨ A.heap.size ≤ j) ∧ j < (C.setCell ⟨b0, 0, none⟩ v').heap.size) (C.setCell ⟨b0, 0, none⟩ v') ∧ Seq.Kpt M A (C.setCell ⟨b0, 0, none⟩ v') := by
  have hsB := hAB.size
  have hsC := hg.size
  obtain ⟨D, hD⟩ : ∃ D, C.setCell ⟨b0, 0, none⟩ v' = D := ⟨_, rfl⟩
  have hkD : Seq.Kpt (fun i => i = b0) C D := by rw [← hD]; exact Seq.Kpt.setCell C ⟨b0, 0, none⟩ _
  have hb0 := h.mlt b0 h.mb
  have hsD := hkD.size
  have hgo := h.gown
  have hbx : C.heap[b0]? = some (.cells #[gv] 63 (0, 0)) := by
    rw [hg.block b0 (by omega) (fun e => by have := (hgo b0 e.symm).2; have := h.ob; omega), hAB.block b0 hb0.2]
    exact h.box
  have keep : ∀ j, j < A.heap.size → j ≠ b0 → o j ≠ 1 → D.heap[j]? = A.heap[j]? := fun j hj h1 h2 => by
    rw [hkD.block j (by omega) h1, hg.block j (by omega) (fun e => h2 (hgo j e.symm).2), hAB.block j hj]
  have hmlt := h.mlt
  rw [hD]
  have hbD : D.heap[b0]? = some (.cells #[v'] 63 (0, 0)) := by
    rw [← hD]; simpa using blk_set hbx 0 v'
  have hvown : ∀ j, v'.ownBlock = some j → j ≠ b0 ∧ ((M j ∧ o j = 1) ∨ B.heap.size ≤ j) := fun j e => by
    rcases hv with hv | ⟨b, hv, hb⟩
    · have := hgo j (by rw [← hv]; exact e)
      exact ⟨fun e0 => by have h0 := h.ob; rw [e0] at this; omega, .inl this⟩
    · rw [hv] at e
      injection e with e
      subst e
      exact ⟨by omega, .inr hb⟩
  have hGD : GA D b0 v' ((G.map GE.raw).take i ++ (.slice KB k.length kc, .slice none 0 0) :: (G.map GE.raw).drop i) := hG.step (fun j e => hkD.block j (by
      have hl := (show j < C.heap.size from by
        rcases hG.1.2 with hh | ⟨g, cap, cur, hv2, _, hgg, _⟩
        · rw [hh.1] at e; simp [Value.ownBlock] at e
        · rw [hv2] at e
          have : g = j := by simpa [Value.ownBlock] using e
          rw [← this]; exact blk_lt hgg)
      exact hl) (hvown j e).1)
  have hvlt : ∀ j, v'.ownBlock = some j → j < D.heap.size := fun j e => by
    rcases hGD.1.2 with hh | ⟨g, cap, cur, hv2, _, hgg, _⟩
    · rw [hh.1] at e; simp [Value.ownBlock] at e
    · rw [hv2] at e
      have : g = j := by simpa [Value.ownBlock] using e
      rw [← this]; exact blk_lt hgg
  have hKpt : Seq.Kpt M A D := ((Seq.Kpt.of_new M hAB).trans (Seq.Kpt.grown hg) (M := M) (fun j hj e => by
      rcases e with e | e
      · exact e
      · exact (hgo j e.symm).1)).trans hkD (fun j hj e => by
      rcases e with e | e
      · exact e
      · rw [e]; exact h.mb)
  refine ⟨⟨hbD, ⟨.inl h.mb, by omega⟩, ?_, ?_, fun j e => ?_, ?_, ?_, ?_, ?_, fun j e => ⟨?_, e.2⟩⟩, hKpt⟩
  · show (if b0 < A.heap.size then o b0 else _) = 0
    rw [if_pos hb0.2]; exact h.ob
  · simpa [List.map_take, List.map_drop, GE.raw] using hGD
  · have h1 := hvown j e
    refine ⟨⟨?_, hvlt j e⟩, ?_⟩
    · rcases h1.2 with z | z
      · exact .inl z.1
      · exact .inr (by omega)
    · show (if j < A.heap.size then o j else if j < B.heap.size then 2 else 1) = 1
      rcases h1.2 with z | z
      · rw [if_pos (hmlt j z.1).2]; exact z.2
      · rw [if_neg (by omega), if_neg (by omega)]
  · intro g hg'
    rcases List.mem_append.1 hg' with z | z
    · exact h.tag3 g (List.mem_of_mem_take z)
    · rcases List.mem_cons.1 z with rfl | z
      · exact ht3
      · exact h.tag3 g (List.mem_of_mem_drop z)
  · have hp := h.tags
    rw [← List.take_append_drop i G] at hp
    obtain ⟨p1, p2, p3⟩ := List.pairwise_append.1 hp
    refine List.pairwise_append.2 ⟨p1, List.pairwise_cons.2 ⟨fun g hg' e => ht g (List.mem_of_mem_drop hg') e.symm, p2⟩, fun a ha b hb => ?_⟩
    rcases List.mem_cons.1 hb with rfl | hb
    · exact ht a (List.mem_of_mem_take ha)
    · exact p3 a ha b hb
  · have old : ∀ g ∈ G, kS.R tS D b0 (fun j => ((M j ∨ A.heap.size ≤ j) ∧ j < D.heap.size) ∧ (if j < A.heap.size then o j else if j < B.heap.size then 2 else 1) = 2) (.slice g.ka g.key.length g.kc) g.key := fun g hg' =>
      Kd.R_mono (Kd.R_move (h.keys g hg') (fun j e => keep j (hmlt j e.1).2 (fun e0 => by have := h.ob; rw [e0] at e; omega) (by omega))) (fun j e => ⟨⟨.inl e.1, by have := (hmlt j e.1).2; omega⟩, by rw [if_pos (hmlt j e.1).2]; exact e.2⟩)
    intro g hg'
    rcases List.mem_append.1 hg' with z | z
    · exact old g (List.mem_of_mem_take z)
    · rcases List.mem_cons.1 z with rfl | z
      · show kS.R tS D b0 _ (.slice KB k.length kc) k
        refine Kd.R_mono (Kd.R_lower (Kd.R_move (Kd.R_bound hk) (fun j e => ?_)) (by omega)) (fun j e => ⟨⟨.inr e.2.1, by have := e.2.2.1; omega⟩, by rw [if_neg (by have := e.2.1; omega), if_pos e.2.2.1]⟩)
        have e1 := e.2.1
        have e2 := e.2.2.1
        rw [hkD.block j (by omega) (by omega), hg.block j e2 (fun e0 => by have := (hmlt j (hgo j e0.symm).1).2; omega)]
      · exact old g (List.mem_of_mem_drop z)
  · have old : ∀ g ∈ G, kRows.R tRow D b0 (fun j => ((M j ∨ A.heap.size ≤ j) ∧ j < D.heap.size) ∧ (if j < A.heap.size then o j else if j < B.heap.size then 2 else 1) = g.tag) (.slice g.ra g.rows.length g.rc) g.rows := fun g hg' =>
      have h3 := h.tag3 g hg'
      Kd.R_mono (Kd.R_move (h.rows g hg') (fun j e => keep j (hmlt j e.1).2 (fun e0 => by have := h.ob; rw [e0] at e; omega) (by omega))) (fun j e => ⟨⟨.inl e.1, by have := (hmlt j e.1).2; omega⟩, by rw [if_pos (hmlt j e.1).2]; exact e.2⟩)
    intro g hg'
    rcases List.mem_append.1 hg' with z | z
    · exact old g (List.mem_of_mem_take z)
    · rcases List.mem_cons.1 z with rfl | z
      · exact Kd.R_nil _ _ _ _ _
      · exact old g (List.mem_of_mem_drop z)
  · rcases e.1 with z | z
    · exact (hmlt j z).1
    · omega
/-- One more row behind those of group i. -/
theorem GSt.append (h : GSt b0 G gv o M A) (hAB : Below A.heap.size A B) (i : Nat) (hi : i < G.length) (x : Row) (ra : Option Addr) (rc gb c : Nat) (hgv : gv = .slice (some ⟨gb, 0, none⟩) G.length c)
    (hv : kRows.R tRow C b0 (fun j => (M j ∧ o j = (G.getD i zGE).tag) ∨ A.heap.size ≤ j) (.slice ra ((G.getD i zGE).rows ++ [x]).length rc) ((G.getD i zGE).rows ++ [x]))
    (hg : B.grownBy C (Value.slice (G.getD i zGE).ra (G.getD i zGE).rows.length (G.getD i zGE).rc).ownBlock) :
    ∃ g', g'.key = (G.getD i zGE).key ∧ g'.rows = (G.getD i zGE).rows ++ [x] ∧
    GSt b0 (G.set i g') gv (fun j => if j < A.heap.size then o j else (G.getD i zGE).tag) (fun j => (M j ∨ A.heap.size ≤ j) ∧ j < (C.setCell ⟨gb, i * 2 + 1, none⟩ (.slice ra ((G.getD i zGE).rows ++ [x]).length rc)).heap.size) (C.setCell ⟨gb, i * 2 + 1, none⟩ (.slice ra ((G.getD i zGE).rows ++ [x]).length rc)) ∧
    Seq.Kpt M A (C.setCell ⟨gb, i * 2 + 1, none⟩ (.slice ra ((G.getD i zGE).rows ++ [x]).length rc)) := by
  obtain ⟨g0, hg0⟩ : ∃ g0, G.getD i zGE = g0 := ⟨_, rfl⟩
  have hmem : g0 ∈ G := by rw [← hg0]; exact getD_mem _ hi
  have hget : G[i]? = some g0 := by rw [← hg0, List.getD_eq_getElem?_getD, List.getElem?_eq_getElem hi]; rfl
  rw [hg0] at hv hg ⊢
  have hsB := hAB.size
  have hsC := hg.size
  obtain ⟨u, hu⟩ : ∃ u, Value.slice ra (g0.rows ++ [x]).length rc = u := ⟨_, rfl⟩
  obtain ⟨D, hD⟩ : ∃ D, C.setCell ⟨gb, i * 2 + 1, none⟩ u = D := ⟨_, rfl⟩
  have hkD : Seq.Kpt (fun i => i = gb) C D := by rw [← hD]; exact Seq.Kpt.setCell C ⟨gb, i * 2 + 1, none⟩ _
  have hb0 := h.mlt b0 h.mb
  have hsD := hkD.size
  have hgbM := h.gown gb (by rw [hgv]; rfl)
  have hmlt := h.mlt
  have hgbl := hmlt gb hgbM.1
  have ht3 := h.tag3 g0 hmem
  have hro : ∀ j, (Value.slice g0.ra g0.rows.length g0.rc).ownBlock = some j → M j ∧ o j = g0.tag := (h.rows g0 hmem).1
  have keep : ∀ j, M j → j ≠ gb → o j ≠ g0.tag → D.heap[j]? = A.heap[j]? := fun j hj h1 h2 => by
    have := (hmlt j hj).2
    rw [hkD.block j (by omega) h1, hg.block j (by omega) (fun e => h2 (hro j e.symm).2), hAB.block j this]
  rw [hu] at hv ⊢
  have hgaC : GA C b0 gv (G.map GE.raw) := h.ga.step (fun j e => by
    have h1 := h.gown j e
    have h2 := (hmlt j h1.1).2
    rw [hg.block j (by omega) (fun e0 => by have := (hro j e0.symm).2; omega), hAB.block j h2])
  rw [hgv] at hgaC
  have hu1 : u.oneCell' = true := by rw [← hu]; rfl
  have hgaD := hgaC.set1 i (by rw [List.length_map]; exact hi) u hu1
  rw [hD] at hgaD
  rw [hD]
  have hrawi : ((G.map GE.raw).getD i (.nilFunc, .nilFunc)) = g0.raw := by
    rw [List.getD_eq_getElem?_getD, List.getElem?_map, hget]; rfl
  rw [hrawi] at hgaD
  refine ⟨⟨g0.key, g0.rows ++ [x], g0.ka, g0.kc, ra, rc, g0.tag⟩, rfl, rfl, ⟨?_, ⟨.inl h.mb, by omega⟩, ?_, ?_, fun j e => ?_, ?_, ?_, ?_, ?_, fun j e => ⟨?_, e.2⟩⟩, ?_⟩
  · have hne : b0 ≠ gb := fun e => by have h0 := h.ob; rw [e] at h0; omega
    rw [keep b0 h.mb hne (by have := h.ob; omega)]; exact h.box
  · show (if b0 < A.heap.size then o b0 else _) = 0
    rw [if_pos hb0.2]; exact h.ob
  · rw [hgv, List.map_set]
    have : (GE.mk g0.key (g0.rows ++ [x]) g0.ka g0.kc ra rc g0.tag).raw = (g0.raw.1, u) := by rw [← hu]; rfl
    rw [this]; exact hgaD
  · have h1 := h.gown j e
    exact ⟨⟨.inl h1.1, by have := (hmlt j h1.1).2; omega⟩, by rw [if_pos (hmlt j h1.1).2]; exact h1.2⟩
  · intro g hg'
    rcases List.mem_or_eq_of_mem_set hg' with z | z
    · exact h.tag3 g z
    · rw [z]; exact ht3
  · rw [List.pairwise_iff_getElem]
    have hp := List.pairwise_iff_getElem.1 h.tags
    intro p q hp1 hq1 hpq
    have hp' : p < G.length := by simpa using hp1
    have hq' : q < G.length := by simpa using hq1
    have tg : ∀ (m : Nat) (hm : m < G.length) (hm' : m < (G.set i ⟨g0.key, g0.rows ++ [x], g0.ka, g0.kc, ra, rc, g0.tag⟩).length), ((G.set i ⟨g0.key, g0.rows ++ [x], g0.ka, g0.kc, ra, rc, g0.tag⟩)[m]).tag = (G[m]).tag := fun m hm hm' => by
      rw [List.getElem_set]
      split
      · rename_i e
        subst e
        have : G[i] = g0 := by rw [List.getElem?_eq_getElem hi] at hget; exact Option.some.inj hget
        rw [this]
      · rfl
    rw [tg p hp' hp1, tg q hq' hq1]
    exact hp p q hp' hq' hpq
  · have old : ∀ g ∈ G, kS.R tS D b0 (fun j => ((M j ∨ A.heap.size ≤ j) ∧ j < D.heap.size) ∧ (if j < A.heap.size then o j else g0.tag) = 2) (.slice g.ka g.key.length g.kc) g.key := fun g hg' =>
      Kd.R_mono (Kd.R_move (h.keys g hg') (fun j e => keep j e.1 (fun e0 => by have h1 := hgbM.2; rw [← e0] at h1; omega) (by omega))) (fun j e => ⟨⟨.inl e.1, by have := (hmlt j e.1).2; omega⟩, by rw [if_pos (hmlt j e.1).2]; exact e.2⟩)
    intro g hg'
    rcases List.mem_or_eq_of_mem_set hg' with z | z
    · exact old g z
    · rw [z]; exact old g0 hmem
  · intro g hg'
    rw [List.mem_iff_getElem] at hg'
    obtain ⟨m, hm, rfl⟩ := hg'
    have hmG : m < G.length := by simpa using hm
    rw [List.getElem_set]
    split
    · rename_i e
      show kRows.R tRow D b0 _ (.slice ra (g0.rows ++ [x]).length rc) (g0.rows ++ [x])
      rw [hu]
      refine Kd.R_mono (Kd.R_move (Kd.R_bound hv) (fun j e => hkD.block j e.2.2.1 (fun e0 => ?_))) (fun j e => ⟨⟨?_, by have := e.2.2.1; omega⟩, ?_⟩)
      · rcases e.1 with z | z
        · rw [e0] at z; omega
        · omega
      · rcases e.1 with z | z
        · exact .inl z.1
        · exact .inr z
      · rcases e.1 with z | z
        · rw [if_pos (hmlt j z.1).2]; exact z.2
        · rw [if_neg (by omega)]
    · rename_i e
      have hgm := List.getElem_mem hmG
      have h3 := h.tag3 _ hgm
      have hne : (G[m]).tag ≠ g0.tag := by
        have hp := List.pairwise_iff_getElem.1 h.tags
        have hgi : G[i] = g0 := by rw [List.getElem?_eq_getElem hi] at hget; exact Option.some.inj hget
        rcases Nat.lt_or_gt_of_ne e with z | z
        · have := hp i m hi hmG z; rw [hgi] at this; exact fun e => this e.symm
        · have := hp m i hmG hi z; rw [hgi] at this; exact this
      exact Kd.R_mono (Kd.R_move (h.rows _ hgm) (fun j e => keep j e.1 (fun e0 => by have h1 := hgbM.2; rw [← e0] at h1; omega) (by omega))) (fun j e => ⟨⟨.inl e.1, by have := (hmlt j e.1).2; omega⟩, by rw [if_pos (hmlt j e.1).2]; exact e.2⟩)
  · rcases e.1 with z | z
    · exact (hmlt j z).1
    · omega
  · exact ((Seq.Kpt.of_new M hAB).trans (Seq.Kpt.grown hg) (M := M) (fun j hj e => by
      rcases e with e | e
      · exact e
      · exact (hro j e.symm).1)).trans hkD (fun j hj e => by
      rcases e with e | e
      · exact e
      · rw [e]; exact hgbM.1)
end
end Go.Proofs.Ytghblnldokpceaa.QV
/- (exec.group).told, whatever is asked. -/
namespace Go.Proofs.Ytghblnldokpceaa.QV
open Go.RowKit Go.Proofs.YtghblnldokpceaaW.PrintWords Go.Proofs.Ytghblnldokpceaa.Seq Go.Shelf Go.Proofs.Ytghblnldokpceaa.Op
set_option linter.unusedVariables false
set_option linter.unusedSimpArgs false

theorem seenL_snoc (a : Ag) (l : List Row) (x : Row) : seenL a (l ++ [x]) = if seenB a (atS x a.f1) = true then seenL a l ++ [atS x a.f1] else seenL a l := by
  unfold seenL
  rw [List.map_append, List.map_singleton, List.filter_append]
  cases h : seenB a (atS x a.f1) <;> simp [h]
theorem seenL_len (a : Ag) (l : List Row) : (seenL a l).length ≤ l.length := by
  have := List.length_filter_le (seenB a) (l.map (fun r => atS r a.f1))
  simpa [seenL] using this
theorem cv_f (v : S') (x : Row) (n : Int) (h : atS x n = v) : exec_at.f x n = some (v.f0, v.f1, v.f2, v.f3) := by rw [← h]; exact at_f x n
theorem null_any (w : World) : Calls Try.prog 60 #[] w fun e w' => e = .returned (.agg #[.int .i64 0, .bool false, .int .i64 0, .string ⟨#[]⟩]) ∧ Below w.heap.size w w' := by
  refine (value_Null.calls 0 false 0 ⟨#[]⟩ w rfl).mono ?_
  rintro e w' ⟨rfl, h⟩
  exact ⟨rfl, h⟩
set_option maxRecDepth 100000 in
set_option maxHeartbeats 8000000 in
theorem told_any (KA : Option Addr) (kn kc : Nat) (RA : Option Addr) (xs : List Row) (rc : Nat) (op col : Int) (w : World) (hr : kRows.C w RA xs.length xs) (hbd : xs.length ≤ 1048576) :
    Calls Try.prog 45 #[.agg #[.slice KA kn kc, .slice RA xs.length rc], .agg #[.int .i64 op, .int .i64 col]] w fun e w' => e = .returned (.agg (cv (toldS ⟨op, col⟩ xs))) ∧ Below w.heap.size w w' := by
  have hmax := hr.2.1
  obtain ⟨ag, hag⟩ : ∃ ag : Ag, (⟨op, col⟩ : Ag) = ag := ⟨_, rfl⟩
  have HAG := Lib.hid hag
  rw [hag]
  clear hag
  go_enter Try.func45, Try.ntmps45
  go_wp2
  obtain ⟨w2, hw2⟩ : ∃ w2, ((w.alloc (.cells #[.slice KA kn kc, .slice RA xs.length rc] 65)).alloc (.cells #[.int .i64 op, .int .i64 col] 48)).alloc (.cells #[.int .i64 0, .bool false, .int .i64 0, .string ⟨#[]⟩] 42) = w2 := ⟨_, rfl⟩
  rw [hw2]
  have hbw : Below w.heap.size w w2 := by rw [← hw2]; exact below_alloc (below_alloc (below_alloc (Below.refl _ _) _) _) _
  have g2 : w2.heap[w.heap.size]? = some (.cells #[.slice KA kn kc, .slice RA xs.length rc] 65 (0, 0)) := by rw [← hw2]; exact blk_alloc (blk_alloc (blk_new _ _) _) _
  have g3 : w2.heap[w.heap.size + 1]? = some (.cells #[.int .i64 op, .int .i64 col] 48 (0, 0)) := by
    have := blk_new (w.alloc (.cells #[.slice KA kn kc, .slice RA xs.length rc] 65)) (.cells #[.int .i64 op, .int .i64 col] 48)
    rw [World.size_alloc] at this
    rw [← hw2]; exact blk_alloc this _
  have g4 : w2.heap[w.heap.size + 1 + 1]? = some (.cells (cv zV) 42 (0, 0)) := by
    have := blk_new ((w.alloc (.cells #[.slice KA kn kc, .slice RA xs.length rc] 65)).alloc (.cells #[.int .i64 op, .int .i64 col] 48)) (.cells #[.int .i64 0, .bool false, .int .i64 0, .string ⟨#[]⟩] 42)
    rw [World.size_alloc, World.size_alloc] at this
    rw [← hw2]; exact this
  clear hw2
  have fin : ∀ (v : S') (V : World), Below w2.heap.size w2 V → V.heap[w.heap.size + 1 + 1]? = some (.cells (cv zV) 42 (0, 0)) ∧ (V.cell? ⟨w.heap.size + 1 + 1, 0, none⟩ = some (.int .i64 0) ∧ V.cell? ⟨w.heap.size + 1 + 1, 1, none⟩ = some (.bool false) ∧ V.cell? ⟨w.heap.size + 1 + 1, 2, none⟩ = some (.int .i64 0) ∧ V.cell? ⟨w.heap.size + 1 + 1, 3, none⟩ = some (.string ⟨#[]⟩)) ∧ (V.frozen? ⟨w.heap.size + 1 + 1, 0, none⟩ = false ∧ V.frozen? ⟨w.heap.size + 1 + 1, 1, none⟩ = false ∧ V.frozen? ⟨w.heap.size + 1 + 1, 2, none⟩ = false ∧ V.frozen? ⟨w.heap.size + 1 + 1, 3, none⟩ = false) ∧
      (set4 V (w.heap.size + 1 + 1) v).heap[w.heap.size + 1 + 1]? = some (.cells (cv v) 42 (0, 0)) ∧ Below w.heap.size w (set4 V (w.heap.size + 1 + 1) v) := fun v V hV => by
    have g := blk_below g4 hV
    exact ⟨g, cv_cells g, cv_frozen g, set4_at g, set4_below (hbw.trans (hV.mono hbw.size)) (by have := hbw.size; have := hV.size; omega) (by omega)⟩
  have FIN := Lib.hid fin
  clear fin
  go_loopw [5, 15] (fun l i wr => ∃ k : Nat, k ≤ xs.length ∧ i = .int .i64 k ∧ kS.R tS wr w2.heap.size (fun _ => True) l (seenL ag (xs.take k)) ∧ Below w2.heap.size w2 wr) (fun _ i _ => xs.length - (intOf i).toNat)
  case atStart => exact ⟨0, Nat.zero_le _, rfl, Kd.R_nil _ _ _ _ _, Below.refl _ _⟩
  case round =>
    obtain ⟨k, hk, rfl, hl, hB⟩ := hrel
    have hll : (seenL ag (xs.take k)).length ≤ k := Nat.le_trans (seenL_len _ _) (by rw [List.length_take]; omega)
    by_cases hlt : k < xs.length
    · have hr2 := Kd.C_below hr (hbw.trans (hB.mono hbw.size))
      have hts := take_snoc' ([] : Row) xs k hlt
      have hsn := seenL_snoc ag (xs.take k) (xs.getD k [])
      rw [hts] at hsn
      obtain ⟨ad, cs, rfl, _, hK, hcs⟩ := Kd.C_get hr2 [] k (by omega) (by omega)
      obtain ⟨Ao, co, rfl, hleo, hCo⟩ := hK
      have hx : xs.getD (k : Int).toNat [] = xs.getD k [] := rfl
      rw [hx] at hleo hCo hcs
      have hc0 := hcs 0 _ rfl
      have hsz : kRows.sz = 1 := rfl
      rw [hsz, Int.toNat_natCast, Nat.mul_one, Nat.add_zero] at hc0
      generalize xs.getD k [] = x at *
      obtain ⟨q, hq⟩ : ∃ q, atS x ag.f1 = q := ⟨_, rfl⟩
      rw [hq] at hsn
      have hq' : atS x col = q := by rw [← HAG.out] at hq; exact hq
      have ha := cv_f q x col hq'
      have hsb : seenB ag q = (q.f0 != 0 && (op != 1 || q.f0 == 2)) := by rw [← HAG.out]; rfl
      clear hq hq' hts
      obtain ⟨q0, q1, q2, q3⟩ := q
      have h31 := blk_cell (blk_below g3 hB) 1
      go_wp2_with fail
      refine (exec_at.calls Ao co x col _ _ _ _ wr hCo hleo ha).mono ?_
      rintro e W4 ⟨rfl, hb4⟩
      have hB4 : Below w2.heap.size w2 W4 := hB.trans (hb4.mono hB.size)
      have h30 := blk_cell (blk_alloc (blk_below g3 hB4) (.cells #[.int .i64 q0, .bool q1, .int .i64 q2, .string q3] 42)) 0
      have hl4 := Kd.R_below hl hb4
      have HSN := Lib.hid hsn
      have HSB := Lib.hid hsb
      clear hsn hsb hl
      have stay : seenB ag ⟨q0, q1, q2, q3⟩ = false → ∃ k' : Nat, k' ≤ xs.length ∧ Value.int .i64 ((k : Int) + 1) = .int .i64 k' ∧ kS.R tS (W4.alloc (.cells #[.int .i64 q0, .bool q1, .int .i64 q2, .string q3] 42)) w2.heap.size (fun _ => True) u5 (seenL ag (xs.take k')) ∧ Below w2.heap.size w2 (W4.alloc (.cells #[.int .i64 q0, .bool q1, .int .i64 q2, .string q3] 42)) := fun hf =>
        ⟨k + 1, by omega, by go_num, by rw [HSN.out, hf, if_neg (by simp)]; exact Kd.R_alloc hl4 _, below_alloc hB4 _⟩
      have STAY := Lib.hid stay
      clear stay
      by_cases hz : q0 = 0
      · subst hz
        go_wp2_with fail
        go_roundw
        case rel => exact STAY.out (by rw [HSB.out]; rfl)
        case measure => simp [intOf]; omega
      · by_cases ho : op = 1
        · subst ho
          by_cases h2 : q0 = 2
          · subst h2
            have hsn' : seenL ag (xs.take (k + 1)) = seenL ag (xs.take k) ++ [⟨2, q1, q2, q3⟩] := by rw [HSN.out, if_pos (by rw [HSB.out]; rfl)]
            have HS2 := Lib.hid hsn'
            clear hsn'
            go_wp2_with (at_builtin; refine Kd.R_append kS (w0 := w2) w2.heap.size rfl (.tmp 36) (.tmp 38) 31 42 _ 40 rfl Try.underlying31 infoS rfl (by decide) (by decide) _ (seenL ag (xs.take k)) ⟨2, q1, q2, q3⟩ [.int .i64 2, .bool q1, .int .i64 q2, .string q3] (fun _ => True) (fun _ => False) rfl (slice_alloc _ _ _ _) (k42_mkM _ _ _ _) (fun _ h => h.elim) (fun _ _ => trivial) (Kd.R_alloc hl4 _) (below_alloc hB4 _) (by have := hB4.size; simp; omega) (by omega) ?_; intro v1 w1 hv1 hB1 hg1 hat1)
            go_roundw
            case rel => exact ⟨k + 1, by omega, by go_num, by rw [HS2.out]; exact hv1, hB1⟩
            case measure => simp [intOf]; omega
          · have h2b : (q0 == 2) = false := by simp [h2]
            have h2d : decide (q0 = 2) = false := by simp [h2]
            go_wp2_with fail
            go_roundw
            case rel => exact STAY.out (by rw [HSB.out]; simp [hz, h2])
            case measure => simp [intOf]; omega
        · have hsn' : seenL ag (xs.take (k + 1)) = seenL ag (xs.take k) ++ [⟨q0, q1, q2, q3⟩] := by rw [HSN.out, if_pos (by rw [HSB.out]; simp [hz, ho])]
          have HS2 := Lib.hid hsn'
          clear hsn'
          go_wp2_with (at_builtin; refine Kd.R_append kS (w0 := w2) w2.heap.size rfl (.tmp 36) (.tmp 38) 31 42 _ 40 rfl Try.underlying31 infoS rfl (by decide) (by decide) _ (seenL ag (xs.take k)) ⟨q0, q1, q2, q3⟩ [.int .i64 q0, .bool q1, .int .i64 q2, .string q3] (fun _ => True) (fun _ => False) rfl (slice_alloc _ _ _ _) (k42_mkM _ _ _ _) (fun _ h => h.elim) (fun _ _ => trivial) (Kd.R_alloc hl4 _) (below_alloc hB4 _) (by have := hB4.size; simp; omega) (by omega) ?_; intro v1 w1 hv1 hB1 hg1 hat1)
          go_roundw
          case rel => exact ⟨k + 1, by omega, by go_num, by rw [HS2.out]; exact hv1, hB1⟩
          case measure => simp [intOf]; omega
    · obtain rfl : k = xs.length := by omega
      rw [List.take_length] at hl hll
      have h30 := blk_cell (blk_below g3 hB) 0
      have h21 := blk_cell (blk_below g2 hB) 1
      have finish : True := trivial
      by_cases h0 : op = 0
      · subst h0
        have hT : toldS ag xs = numV xs.length := by rw [← HAG.out]; rfl
        have HT := Lib.hid hT
        clear hT hl
        go_wp2_with fail
        refine (int_any _ _).mono ?_
        rintro e W5 ⟨rfl, hb5⟩
        obtain ⟨gz, ⟨n0, n1, n2, n3⟩, ⟨m0, m1, m2, m3⟩, hs, hbf⟩ := FIN.out (numV xs.length) W5 (hB.trans (hb5.mono hB.size))
        clear gz
        go_wp2_with fail
        refine bodyPost_ret (results_cell_row rfl _ _ (w.heap.size + 1 + 1) 42 (cv (numV xs.length)) (0, 0) _ rfl hs Try.underlying42 rfl rfl) rfl ?_
        exact ⟨by rw [HT.out], hbf⟩
      · have hT : toldS ag xs = match seenL ag xs with | [] => zV | x :: l => if op < 0 then zV else if 3 < op then zV else if op = 2 then minV x l else if op = 3 then maxV x l else numV (sumV 0 (x :: l)) := by
          rw [← HAG.out]; unfold toldS; rw [if_neg h0]; rfl
        obtain ⟨TV, hTV⟩ : ∃ TV, toldS ag xs = TV := ⟨_, rfl⟩
        rw [hTV] at hT
        have HTV := Lib.hid hTV
        obtain ⟨L, hL⟩ : ∃ L, seenL ag xs = L := ⟨_, rfl⟩
        rw [hL] at hT hl hll
        clear hL hTV
        obtain ⟨LA, lc, rfl⟩ := Kd.R_slice hl
        obtain ⟨_, hlle, hLC⟩ := Kd.R_reads' hl
        have nul : ∀ V, Below wr.heap.size wr V → TV = zV → (V.cell? ⟨w.heap.size + 1 + 1, 0, none⟩ = some (.int .i64 0) ∧ V.cell? ⟨w.heap.size + 1 + 1, 1, none⟩ = some (.bool false) ∧ V.cell? ⟨w.heap.size + 1 + 1, 2, none⟩ = some (.int .i64 0) ∧ V.cell? ⟨w.heap.size + 1 + 1, 3, none⟩ = some (.string ⟨#[]⟩)) ∧ (V.frozen? ⟨w.heap.size + 1 + 1, 0, none⟩ = false ∧ V.frozen? ⟨w.heap.size + 1 + 1, 1, none⟩ = false ∧ V.frozen? ⟨w.heap.size + 1 + 1, 2, none⟩ = false ∧ V.frozen? ⟨w.heap.size + 1 + 1, 3, none⟩ = false) ∧
            (set4 V (w.heap.size + 1 + 1) zV).heap[w.heap.size + 1 + 1]? = some (.cells (cv zV) 42 (0, 0)) ∧ Ending.returned (.agg (cv zV)) = .returned (.agg (cv (toldS ag xs))) ∧ Below w.heap.size w (set4 V (w.heap.size + 1 + 1) zV) := fun V hV e => by
          obtain ⟨_, a, b, c, d⟩ := FIN.out zV V (hB.trans (hV.mono hB.size))
          exact ⟨a, b, c, by rw [HTV.out, e], d⟩
        have NUL := Lib.hid nul
        clear nul hl
        cases L with
        | nil =>
          have HT := Lib.hid (show TV = zV from hT)
          clear hT
          simp only [List.length_nil] at hlle hLC hll ⊢
          go_wp2_with fail
          refine (null_any _).mono ?_
          rintro e W5 ⟨rfl, hb5⟩
          obtain ⟨⟨n0, n1, n2, n3⟩, ⟨m0, m1, m2, m3⟩, hs, hret, hbf⟩ := NUL.out W5 hb5 HT.out
          go_wp2_with fail
          refine bodyPost_ret (results_cell_row rfl _ _ (w.heap.size + 1 + 1) 42 (cv zV) (0, 0) _ rfl hs Try.underlying42 rfl rfl) rfl ?_
          exact ⟨hret, hbf⟩
        | cons x l =>
          obtain ⟨n, hn⟩ : ∃ n, (x :: l).length = n := ⟨_, rfl⟩
          have hn0 : ¬ n = 0 := by rw [← hn]; simp
          have HN := Lib.hid hn
          rw [hn] at hlle hLC hll ⊢
          clear hn
          by_cases hneg : op < 0
          · have HT := Lib.hid (show TV = zV by rw [hT]; simp only; rw [if_pos hneg])
            clear hT
            go_wp2_with fail
            refine (null_any _).mono ?_
            rintro e W5 ⟨rfl, hb5⟩
            obtain ⟨⟨n0, n1, n2, n3⟩, ⟨m0, m1, m2, m3⟩, hs, hret, hbf⟩ := NUL.out W5 hb5 HT.out
            go_wp2_with fail
            refine bodyPost_ret (results_cell_row rfl _ _ (w.heap.size + 1 + 1) 42 (cv zV) (0, 0) _ rfl hs Try.underlying42 rfl rfl) rfl ?_
            exact ⟨hret, hbf⟩
          · by_cases hbig : 3 < op
            · have HT := Lib.hid (show TV = zV by rw [hT]; simp only; rw [if_neg hneg, if_pos hbig])
              clear hT
              go_wp2_with fail
              refine (null_any _).mono ?_
              rintro e W5 ⟨rfl, hb5⟩
              obtain ⟨⟨n0, n1, n2, n3⟩, ⟨m0, m1, m2, m3⟩, hs, hret, hbf⟩ := NUL.out W5 hb5 HT.out
              go_wp2_with fail
              refine bodyPost_ret (results_cell_row rfl _ _ (w.heap.size + 1 + 1) 42 (cv zV) (0, 0) _ rfl hs Try.underlying42 rfl rfl) rfl ?_
              exact ⟨hret, hbf⟩
            · by_cases h2 : op = 2
              · subst h2
                have HT := Lib.hid (show TV = minV x l by rw [hT]; rfl)
                clear hT
                go_wp2_with fail
                have hmm := min_any LA x l lc wr (by rw [HN.out]; exact hLC) (by rw [HN.out]; exact hlle)
                rw [HN.out] at hmm
                refine hmm.mono ?_
                rintro e W5 ⟨he, hb5⟩
                obtain ⟨gz, ⟨n0, n1, n2, n3⟩, ⟨m0, m1, m2, m3⟩, hs, hbf⟩ := FIN.out (minV x l) W5 (hB.trans (hb5.mono hB.size))
                clear gz hmm
                have hret : Ending.returned (.agg (cv (minV x l))) = .returned (.agg (cv (toldS ag xs))) := by rw [HTV.out, HT.out]
                generalize minV x l = y at *
                obtain ⟨y0, y1, y2, y3⟩ := y
                have HR := Lib.hid hret
                clear hret
                have he' : e = .returned (.agg #[.int .i64 y0, .bool y1, .int .i64 y2, .string y3]) := he
                subst he'
                clear he
                go_wp2_with fail
                refine bodyPost_ret (results_cell_row rfl _ _ (w.heap.size + 1 + 1) 42 (cv ⟨y0, y1, y2, y3⟩) (0, 0) _ rfl hs Try.underlying42 rfl rfl) rfl ?_
                exact ⟨HR.out, hbf⟩
              · by_cases h3 : op = 3
                · subst h3
                  have HT := Lib.hid (show TV = maxV x l by rw [hT]; rfl)
                  clear hT
                  go_wp2_with fail
                  have hmm := max_any LA x l lc wr (by rw [HN.out]; exact hLC) (by rw [HN.out]; exact hlle)
                  rw [HN.out] at hmm
                  refine hmm.mono ?_
                  rintro e W5 ⟨he, hb5⟩
                  obtain ⟨gz, ⟨n0, n1, n2, n3⟩, ⟨m0, m1, m2, m3⟩, hs, hbf⟩ := FIN.out (maxV x l) W5 (hB.trans (hb5.mono hB.size))
                  clear gz hmm
                  have hret : Ending.returned (.agg (cv (maxV x l))) = .returned (.agg (cv (toldS ag xs))) := by rw [HTV.out, HT.out]
                  generalize maxV x l = y at *
                  obtain ⟨y0, y1, y2, y3⟩ := y
                  have HR := Lib.hid hret
                  clear hret
                  have he' : e = .returned (.agg #[.int .i64 y0, .bool y1, .int .i64 y2, .string y3]) := he
                  subst he'
                  clear he
                  go_wp2_with fail
                  refine bodyPost_ret (results_cell_row rfl _ _ (w.heap.size + 1 + 1) 42 (cv ⟨y0, y1, y2, y3⟩) (0, 0) _ rfl hs Try.underlying42 rfl rfl) rfl ?_
                  exact ⟨HR.out, hbf⟩
                · obtain rfl : op = 1 := by omega
                  have HT := Lib.hid (show TV = numV (sumV 0 (x :: l)) by rw [hT]; rfl)
                  clear hT
                  have hC0 : kS.C wr LA (x :: l).length (x :: l) := by rw [HN.out]; exact hLC
                  have hln : (x :: l).length = n := HN.out
                  generalize x :: l = L at *
                  have hsnoc : ∀ k, k < n → sumV 0 (L.take (k + 1)) = wrap64 (sumV 0 (L.take k) + (L.getD k zV).f2) := fun k hk => by
                    rw [← take_snoc' zV L k (by omega)]; simp [sumV]
                  have HSN := Lib.hid hsnoc
                  have hcell : ∀ k, k < n → ∃ ad y, LA = some ad ∧ L.getD k zV = y ∧ ∀ V, Below wr.heap.size wr V → V.cell? (ad.add (k * 4)) = some (.int .i64 y.f0) ∧ V.cell? ⟨(ad.add (k * 4)).block, (ad.add (k * 4)).off + 1, none⟩ = some (.bool y.f1) ∧ V.cell? ⟨(ad.add (k * 4)).block, (ad.add (k * 4)).off + 2, none⟩ = some (.int .i64 y.f2) ∧ V.cell? ⟨(ad.add (k * 4)).block, (ad.add (k * 4)).off + 3, none⟩ = some (.string y.f3) := fun k hk => by
                    obtain ⟨ad, e, r⟩ := kS_atV hC0 k (by omega)
                    refine ⟨ad, _, e, rfl, fun V hV => ?_⟩
                    exact ⟨pw_cell_below hV r.1, pw_cell_below hV r.2.1, pw_cell_below hV r.2.2.1, pw_cell_below hV r.2.2.2⟩
                  have HCE := Lib.hid hcell
                  have hend : sumV 0 (L.take n) = sumV 0 L := by rw [List.take_of_length_le (by omega)]
                  have HEND := Lib.hid hend
                  clear hsnoc hcell hend hC0 hLC hln HN
                  go_wp2_with fail
                  go_loopw [9, 78] (fun sv iv V => ∃ (k : Nat), k ≤ n ∧ iv = .int .i64 k ∧ sv = .int .i64 (sumV 0 (L.take k)) ∧ Below wr.heap.size wr V) (fun _ iv _ => n - (intOf iv).toNat)
                  case atStart => exact ⟨0, Nat.zero_le _, rfl, rfl, Below.refl _ _⟩
                  case round =>
                    rename_i wq _
                    obtain ⟨k, hk, rfl, rfl, hBq⟩ := hrel
                    by_cases hlt : k < n
                    · obtain ⟨ad, y, rfl, hy, hce⟩ := HCE.out k hlt
                      obtain ⟨c0, c1, c2, c3⟩ := hce _ hBq
                      have hS := HSN.out k hlt
                      rw [hy] at hS
                      clear hce hy
                      obtain ⟨y0, y1, y2, y3⟩ := y
                      have HS := Lib.hid hS
                      clear hS
                      generalize sumV 0 (L.take k) = s at *
                      simp only at c0 c1 c2 c3
                      go_wp2
                      go_roundw
                      case rel => exact ⟨k + 1, by omega, by go_num, by rw [HS.out], below_alloc hBq _⟩
                      case measure => simp [intOf]; omega
                    · obtain rfl : k = n := by omega
                      rw [HEND.out] at *
                      go_wp2_with fail
                      refine (int_any _ _).mono ?_
                      rintro e W5 ⟨rfl, hb5⟩
                      obtain ⟨gz, ⟨n0, n1, n2, n3⟩, ⟨m0, m1, m2, m3⟩, hs, hbf⟩ := FIN.out (numV (sumV 0 L)) W5 (hB.trans ((hBq.trans (hb5.mono hBq.size)).mono hB.size))
                      clear gz
                      go_wp2_with fail
                      refine bodyPost_ret (results_cell_row rfl _ _ (w.heap.size + 1 + 1) 42 (cv (numV (sumV 0 L))) (0, 0) _ rfl hs Try.underlying42 rfl rfl) rfl ?_
                      exact ⟨by rw [HTV.out, HT.out], hbf⟩
end Go.Proofs.Ytghblnldokpceaa.QV
/- An iterator that ranges over another one and hands out rows of its own: what lies between its consumer's rounds (it may write its own boxes Z), and one round's yield. -/
namespace Go.Proofs.Ytghblnldokpceaa.QV
open Go Go.RowKit Go.Proofs.YtghblnldokpceaaW.PrintWords Go.Proofs.Ytghblnldokpceaa.Seq
set_option linter.unusedVariables false

/-- The consumer, as SeqOf tells it. -/
structure Cons (P : Program) (w W : World) (l : Nat) (J Jx : List Row → (Nat → Prop) → World → Prop) (Mc : Nat → Prop) (out : List Row) : Prop where
  hW : Below w.heap.size w W
  hM : ∀ i, Mc i → w.heap.size ≤ i ∧ i < W.heap.size
  hJ : ∀ pre M A B, J pre M A → Kpt (fun i => W.heap.size ≤ i ∧ ¬ M i) A B → J pre M B
  hJx : ∀ pre M A B, Jx pre M A → Kpt (fun i => W.heap.size ≤ i ∧ ¬ M i) A B → Jx pre M B
  hY : ∀ pre x vs N A M, J pre M A → (pre ++ [x]) <+: out → RdNew w A N x vs → (∀ i, M i → w.heap.size ≤ i ∧ i < A.heap.size) → (∀ i, N i → W.heap.size ≤ i ∧ i < A.heap.size ∧ ¬ M i) → W.heap.size ≤ A.heap.size →
      YieldAt Fence.wide 0 P l vs A fun e B => ∃ M', (∀ i, M' i → (M i ∨ N i ∨ A.heap.size ≤ i) ∧ i < B.heap.size) ∧ Kpt (fun i => M i ∨ N i) A B ∧
        ((e = .returned (.bool true) ∧ J (pre ++ [x]) M' B) ∨ (e = .returned (.bool false) ∧ Jx (pre ++ [x]) M' B))

def J3 (J : List Row → (Nat → Prop) → World → Prop) (Mc Z : Nat → Prop) (W W2 : World) (xs : List Row) (Mh : Nat → Prop) (A : World) : Prop :=
  ∃ Mj, J xs Mj A ∧ (∀ i, Mh i ↔ (Mj i ∨ (W.heap.size ≤ i ∧ i < W2.heap.size))) ∧ (∀ i, Mj i → (Mc i ∨ W2.heap.size ≤ i) ∧ i < A.heap.size) ∧ Kpt (fun i => Mc i ∨ Z i) W2 A
section
variable {J : List Row → (Nat → Prop) → World → Prop} {Mc Z Mh : Nat → Prop} {W W2 A B : World} {xs : List Row} {D : Nat} {o : Obj}
theorem J3.kept (hJ : ∀ pre M A B, J pre M A → Kpt (fun i => W.heap.size ≤ i ∧ ¬ M i) A B → J pre M B) (hz : W.heap.size ≤ W2.heap.size) (h : J3 J Mc Z W W2 xs Mh A) (hk : Kpt (fun i => W2.heap.size ≤ i ∧ ¬ Mh i) A B) : J3 J Mc Z W W2 xs Mh B := by
  obtain ⟨Mj, h1, h2, h3, h4⟩ := h
  refine ⟨Mj, hJ _ _ _ _ h1 (hk.mono (fun i _ h => ⟨by omega, fun k => h.2 ((h2 i).2 (.inl k))⟩)), h2, fun i hi => ⟨(h3 i hi).1, Nat.lt_of_lt_of_le (h3 i hi).2 hk.size⟩, h4.trans hk (fun i hi h => ?_)⟩
  rcases h with h | h
  · exact h
  · omega
theorem J3.ends (hJ : ∀ pre M A B, J pre M A → Kpt (fun i => W.heap.size ≤ i ∧ ¬ M i) A B → J pre M B) (hMc : ∀ i, Mc i → i < W.heap.size) (hZ : ∀ i, Z i → W.heap.size ≤ i ∧ i < W2.heap.size) (hBW : Below W.heap.size W W2) (h : J3 J Mc Z W W2 xs Mh A) (hD : W.heap.size ≤ D) (hDM : W2.heap.size ≤ D → ¬ Mh D) :
    ∃ M', (∀ i, M' i → (Mc i ∨ W.heap.size ≤ i) ∧ i < (A.putObj D o).heap.size) ∧ Kpt Mc W (A.putObj D o) ∧ J xs M' (A.putObj D o) := by
  obtain ⟨Mj, h1, h2, h3, h4⟩ := h
  have hz := hBW.size
  have hp : Kpt (fun i => i = D) A (A.putObj D o) := Kpt.putObj A D o
  refine ⟨Mj, fun i hi => ⟨by rcases (h3 i hi).1 with h | h; exact .inl h; exact .inr (by omega), Nat.lt_of_lt_of_le (h3 i hi).2 hp.size⟩, ?_, hJ _ _ _ _ h1 (hp.mono (fun i _ e => ?_))⟩
  · exact ((Kpt.of_new Mc hBW).trans h4 (M := Mc) (fun i hi h => by
      rcases h with h | h | h
      · exact h
      · exact h
      · have := hZ i h; omega)).trans hp (fun i hi h => by
      rcases h with h | h
      · exact h
      · omega)
  · rw [e]
    refine ⟨hD, fun k => ?_⟩
    rcases Nat.lt_or_ge D W2.heap.size with hl | hl
    · rcases (h3 D k).1 with z | z
      · have := hMc D z; omega
      · omega
    · exact hDM hl ((h2 D).2 (.inl k))
theorem J3.size (h : J3 J Mc Z W W2 xs Mh A) : W2.heap.size ≤ A.heap.size := by
  obtain ⟨Mj, h1, h2, h3, h4⟩ := h
  exact h4.size
theorem J3.below {w : World} (hM : ∀ i, Mc i → w.heap.size ≤ i) (hZ : ∀ i, Z i → w.heap.size ≤ i) (hw : w.heap.size ≤ W2.heap.size) (h : J3 J Mc Z W W2 xs Mh A) : Below w.heap.size W2 A := by
  obtain ⟨Mj, h1, h2, h3, h4⟩ := h
  exact h4.below hw (fun i _ h => h.elim (hM i) (hZ i))
end
/-- ONE ROUND'S YIELD of a row of the iterator's own, y, that it made since A. -/
theorem J3.yield {P : Program} {w W : World} {l : Nat} {J Jx : List Row → (Nat → Prop) → World → Prop} {Mc Z Mh : Nat → Prop} {out ys : List Row} {W2 A B : World} {v : Value} {y : Row} (c : Cons P w W l J Jx Mc out)
    (hz : W.heap.size ≤ W2.heap.size) (h : J3 J Mc Z W W2 ys Mh A) (hAB : Below A.heap.size A B) (hR : kS.R tS B A.heap.size (fun _ => True) v y) (hpre : (ys ++ [y]) <+: out) :
    YieldAt Fence.wide 0 P l #[v] B fun e C => ∃ M', (∀ i, M' i → (Mh i ∨ A.heap.size ≤ i) ∧ i < C.heap.size) ∧ Kpt Mh A C ∧ Kpt (fun i => Mc i ∨ W2.heap.size ≤ i) A C ∧
      ((e = .returned (.bool true) ∧ J3 J Mc Z W W2 (ys ++ [y]) M' C) ∨ (e = .returned (.bool false) ∧ J3 Jx Mc Z W W2 (ys ++ [y]) M' C)) := by
  have hzA := h.size
  obtain ⟨Mj, h1, h2, h3, h4⟩ := h
  have hsB := hAB.size
  have hwW := c.hW.size
  refine (c.hY ys y #[v] (fun i => A.heap.size ≤ i ∧ i < B.heap.size) B Mj (c.hJ _ _ _ _ h1 (Kpt.of_new _ hAB)) hpre
    ⟨v, rfl, Kd.R_lower (Kd.R_mono (Kd.R_bound hR) (fun i hi => ⟨hi.2.1, hi.2.2.1⟩)) (by omega), fun i hi => hi.2⟩
    (fun i hi => ⟨by rcases (h3 i hi).1 with k | k; exact (c.hM i k).1; omega, Nat.lt_of_lt_of_le (h3 i hi).2 hsB⟩) (fun i hi => ⟨by omega, hi.2, fun k => by have := (h3 i k).2; omega⟩) (by omega)).mono ?_
  rintro e C ⟨M9, hM9, hk9, hh⟩
  have hsC := hk9.size
  have hKA : Kpt Mj A C := (Kpt.of_new Mj hAB).trans hk9 (fun i hi k => by
    rcases k with k | k | k
    · exact k
    · exact k
    · omega)
  refine ⟨fun i => M9 i ∨ (W.heap.size ≤ i ∧ i < W2.heap.size), fun i hi => ?_, hKA.mono (fun i _ k => (h2 i).2 (.inl k)), hKA.mono (fun i _ k => (h3 i k).1), ?_⟩
  · rcases hi with k | k
    · refine ⟨?_, (hM9 i k).2⟩
      rcases (hM9 i k).1 with z | z | z
      · exact .inl ((h2 i).2 (.inl z))
      · exact .inr z.1
      · exact .inr (by omega)
    · exact ⟨.inl ((h2 i).2 (.inr k)), by omega⟩
  · have fin : ∀ JJ : List Row → (Nat → Prop) → World → Prop, JJ (ys ++ [y]) M9 C → J3 JJ Mc Z W W2 (ys ++ [y]) (fun i => M9 i ∨ (W.heap.size ≤ i ∧ i < W2.heap.size)) C := fun JJ hj =>
      ⟨M9, hj, fun i => Iff.rfl, fun i hi => ⟨by
        rcases (hM9 i hi).1 with z | z | z
        · exact (h3 i z).1
        · exact .inr (by omega)
        · exact .inr (by omega), (hM9 i hi).2⟩, h4.trans hKA (fun i hi k => by
        rcases k with k | k
        · exact k
        · rcases (h3 i k).1 with z | z
          · exact .inl z
          · omega)⟩
    rcases hh with ⟨he, hj⟩ | ⟨he, hj⟩
    · exact .inl ⟨he, fin _ hj⟩
    · exact .inr ⟨he, fin _ hj⟩
end Go.Proofs.Ytghblnldokpceaa.QV
/- slices.Clone of whole numbers. -/
namespace Go.Proofs.Ytghblnldokpceaa.QV
open Go.RowKit Go.Proofs.YtghblnldokpceaaW.PrintWords
set_option linter.unusedVariables false
set_option linter.unusedSimpArgs false
abbrev kI : Kd Int := Kd.int .i64
theorem infoI : (Try.prog.info? 3).map (fun i => (i.zero, i.size, i.bytes)) = some (some (.int .i64 0), 1, 8) := by kernel_rfl
theorem kI_KM {w W : World} {base : Nat} {ok : Nat → Prop} (x : Int) (cs : List Value) (h : kI.K w x cs) : kI.M W base ok x cs := h
set_option maxHeartbeats 1000000 in
theorem clone_ints (A : Option Addr) (l : List Int) (c : Nat) (w : World) (hr : kI.C w A l.length l) (hc : l.length ≤ c) (hb : l.length * 8 ≤ 140737488355328) :
    Calls Try.prog 37 #[.slice A l.length c] w fun e w' => ∃ v, e = .returned v ∧ kI.R 3 w' w.heap.size (fun _ => True) v l ∧ Below w.heap.size w w' := by
  have hmax := hr.2.1
  cases A with
  | none =>
    have hl : l = [] := by
      cases l with
      | nil => rfl
      | cons x l => obtain ⟨ad, e, _⟩ := hr.2.2 (by simp); cases e
    subst hl
    have hn := Lib.run_eql_slice_nil (P := Try.prog)
    go_enter Try.func37, Try.ntmps37
    go_wp2
    go_ret
    exact ⟨_, rfl, Kd.R_nil _ _ _ _ _, Below.refl _ _⟩
  | some ad =>
    have hn := Lib.run_eql_slice_nil (P := Try.prog)
    go_enter Try.func37, Try.ntmps37
    go_wp2_with (at_builtin; refine Kd.R_append_rows kI (w0 := w) w.heap.size rfl (.tmp 5) (.tmp 6) 35 3 _ 8 rfl Try.underlying35 infoI rfl (by decide) (by decide) (.slice (some ⟨w.heap.size, 0, none⟩) 0 0) [] l (some ad) l.length c (fun _ => True) (fun _ => False) rfl rfl (R_empty' kI _ _ _ _ (Nat.le_refl _) trivial) (Kd.C_below hr (below_alloc (Below.refl _ _) _)) (fun x cs h => kI_KM x cs h) (fun _ h => h.elim) (fun _ _ => trivial) (below_alloc (Below.refl _ _) _) (by simp) (by simp; omega) ?_; intro v1 w4 hv1 hB7 hg7 hat7; clear hg7 hat7)
    go_ret
    exact ⟨v1, rfl, by simpa using hv1, hB7⟩
end Go.Proofs.Ytghblnldokpceaa.QV
