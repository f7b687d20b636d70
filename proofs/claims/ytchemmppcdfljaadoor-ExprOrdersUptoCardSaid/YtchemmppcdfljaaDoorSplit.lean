/- Split, of the program and of the reference. -/
import Derived.Test.YtchemmppcdfljaaDoorExprAll
import Derived.Deep.RegionLaw
namespace Go.Proofs.YtchemmppcdfljaaDoor.Op
open Go.RowKit Go.Proofs.YtchemmppcdfljaaDoorW.PrintWords
set_option linter.unusedVariables false

def splitL (l : List T) (n : Int) : List T := l.filter fun t => decide (t.c < n)
def splitR (l : List T) (n : Int) : List T := (l.filter fun t => !decide (t.c < n)).map fun t => ⟨wrap64 (t.c - n), t.o, t.v⟩
theorem infoT : (Tryd.prog.info? 27).map (fun i => (i.zero, i.size, i.bytes)) = some (some (.agg #[.int .i64 0, .int .i64 0, .int .i64 0, .bool false, .int .i64 0, .string ByteArray.empty]), 6, 56) := by kernel_rfl

theorem take_getD {α : Type} {l : List α} {k : Nat} (z : α) (h : k < l.length) : l.take (k + 1) = l.take k ++ [l.getD k z] := by
  rw [List.take_succ_eq_append_getElem h, List.getD_eq_getElem?_getD, List.getElem?_eq_getElem h]; rfl
theorem splitL_yes {l : List T} {n : Int} {k : Nat} (h : k < l.length) (hc : (l.getD k T.z).c < n) : splitL (l.take (k + 1)) n = splitL (l.take k) n ++ [l.getD k T.z] := by
  unfold splitL; rw [take_getD T.z h, List.filter_append]; simp only [List.filter_cons, List.filter_nil, hc, decide_true, if_true]
theorem splitL_no {l : List T} {n : Int} {k : Nat} (h : k < l.length) (hc : ¬ (l.getD k T.z).c < n) : splitL (l.take (k + 1)) n = splitL (l.take k) n := by
  unfold splitL; rw [take_getD T.z h, List.filter_append]; simp only [List.filter_cons, List.filter_nil, hc, decide_false]; simp
theorem splitR_yes {l : List T} {n : Int} {k : Nat} (h : k < l.length) (hc : (l.getD k T.z).c < n) : splitR (l.take (k + 1)) n = splitR (l.take k) n := by
  unfold splitR; rw [take_getD T.z h, List.filter_append]; simp only [List.filter_cons, List.filter_nil, hc, decide_true]; simp
theorem splitR_no {l : List T} {n : Int} {k : Nat} (h : k < l.length) (hc : ¬ (l.getD k T.z).c < n) : splitR (l.take (k + 1)) n = splitR (l.take k) n ++ [⟨wrap64 ((l.getD k T.z).c - n), (l.getD k T.z).o, (l.getD k T.z).v⟩] := by
  unfold splitR; rw [take_getD T.z h, List.filter_append]; simp only [List.filter_cons, List.filter_nil, hc, decide_false]; simp

set_option maxHeartbeats 4000000 in
theorem split_any (Al : Option Addr) (l : List T) (cl : Nat) (n : Int) (w : World) (hl : kT.C w Al l.length l) (hcl : l.length ≤ cl) (hb : l.length * 56 ≤ 140737488355328) :
    Calls Tryd.prog 16 #[.slice Al l.length cl, .int .i64 n] w fun e w' => ∃ va vb, e = .returned (.tuple #[va, vb]) ∧ kT.R 27 w' w.heap.size (fun _ => True) va (splitL l n) ∧ kT.R 27 w' w.heap.size (fun _ => True) vb (splitR l n) ∧ Below w.heap.size w w' := by
  have hml := hl.2.1
  go_enter Tryd.func16, Tryd.ntmps16
  go_wp2
  go_loopw [10, 4, 5] (fun i va vb wr => ∃ k : Nat, i = .int .i64 k ∧ k ≤ l.length ∧ kT.R 27 wr w.heap.size (fun b => some b ≠ vb.ownBlock) va (splitL (l.take k) n) ∧ kT.R 27 wr w.heap.size (fun b => some b ≠ va.ownBlock) vb (splitR (l.take k) n) ∧ Below w.heap.size w wr) (fun i _ _ _ => l.length - (intOf i).toNat)
  case atStart => exact ⟨0, rfl, Nat.zero_le _, Kd.R_nil _ _ _ _ _, Kd.R_nil _ _ _ _ _, Below.refl _ _⟩
  case round =>
    obtain ⟨k, rfl, hk, hva, hvb, hB⟩ := hrel
    by_cases hlt : k < l.length
    · obtain ⟨ad, rfl, hv⟩ := kT_at (Kd.C_below hl hB) k hlt
      generalize hx : l.getD k T.z = x at hv
      have HX := Lib.hid hx
      clear hx
      obtain ⟨tc, o, ⟨k', b, i, s⟩⟩ := x
      obtain ⟨hblt, hv0, hv1, hv2, hv3, hv4, hv5⟩ := hv
      simp only at hv0 hv1 hv2 hv3 hv4 hv5
      by_cases hcn : tc < n
      · have hbd : ((splitL (l.take k) n).length + 1) * 56 ≤ 140737488355328 := by
          have : (splitL (l.take k) n).length ≤ (l.take k).length := List.length_filter_le _ _
          rw [List.length_take] at this
          have : (splitL (l.take k) n).length + 1 ≤ l.length := by omega
          exact Nat.le_trans (Nat.mul_le_mul_right _ this) hb
        go_wp2_with (at_builtin; refine Kd.R_append kT (w0 := w) w.heap.size rfl (.tmp 18) (.tmp 20) 22 27 _ 56 rfl Tryd.underlying22 infoT rfl (by decide) (by decide) u4 (splitL (l.take k) n) ⟨tc, o, ⟨k', b, i, s⟩⟩ [.int .i64 tc, .int .i64 o, .int .i64 k', .bool b, .int .i64 i, .string s] (fun b => some b ≠ u5.ownBlock) (fun _ => False) rfl (slice_alloc _ _ _ _) (kT_M _ _ _ _) (fun _ h => h.elim) (Kd.fresh_ok (Kd.R_alloc hvb _)) (Kd.R_alloc hva _) (below_alloc hB _) (by have := hB.size; simp; omega) hbd ?_; intro v1 w1 hva1 hB1 hg1 hat1)
        have hvb1 := row_after (Kd.R_alloc hvb (.cells #[.int .i64 tc, .int .i64 o, .int .i64 k', .bool b, .int .i64 i, .string s] 27)) hg1 hat1
        clear hg1 hat1
        go_roundw
        case rel =>
          refine ⟨k + 1, by go_num, by omega, ?_, ?_, hB1⟩
          · rw [splitL_yes hlt (by rw [HX.out]; exact hcn), HX.out]; exact hva1
          · rw [splitR_yes hlt (by rw [HX.out]; exact hcn)]; exact hvb1
        case measure => simp [intOf]; omega
      · have hbd : ((splitR (l.take k) n).length + 1) * 56 ≤ 140737488355328 := by
          have : (splitR (l.take k) n).length ≤ (l.take k).length := by unfold splitR; rw [List.length_map]; exact List.length_filter_le _ _
          rw [List.length_take] at this
          have : (splitR (l.take k) n).length + 1 ≤ l.length := by omega
          exact Nat.le_trans (Nat.mul_le_mul_right _ this) hb
        go_wp2_with (at_builtin; refine Kd.R_append kT (w0 := w) w.heap.size rfl (.tmp 27) (.tmp 29) 22 27 _ 56 rfl Tryd.underlying22 infoT rfl (by decide) (by decide) u5 (splitR (l.take k) n) ⟨wrap64 (tc - n), o, ⟨k', b, i, s⟩⟩ [.int .i64 (wrap64 (tc - n)), .int .i64 o, .int .i64 k', .bool b, .int .i64 i, .string s] (fun b => some b ≠ u4.ownBlock) (fun _ => False) rfl (slice_alloc _ _ _ _) (kT_M _ _ _ _) (fun _ h => h.elim) (Kd.fresh_ok (Kd.R_alloc hva _)) (Kd.R_alloc hvb _) (below_alloc hB _) (by have := hB.size; simp; omega) hbd ?_; intro v1 w1 hvb1 hB1 hg1 hat1)
        have hva1 := row_after (Kd.R_alloc hva (.cells #[.int .i64 (wrap64 (tc - n)), .int .i64 o, .int .i64 k', .bool b, .int .i64 i, .string s] 27)) hg1 hat1
        clear hg1 hat1
        go_roundw
        case rel =>
          refine ⟨k + 1, by go_num, by omega, ?_, ?_, hB1⟩
          · rw [splitL_no hlt (by rw [HX.out]; exact hcn)]; exact hva1
          · rw [splitR_no hlt (by rw [HX.out]; exact hcn), HX.out]; exact hvb1
        case measure => simp [intOf]; omega
    · obtain rfl : k = l.length := by omega
      go_wp2
      go_ret2
      rw [List.take_length] at hva hvb
      exact ⟨u4, u5, rfl, Kd.R_mono hva (fun _ _ => trivial), Kd.R_mono hvb (fun _ _ => trivial), hB⟩
set_option maxHeartbeats 4000000 in
theorem ref_split (Al : Option Addr) (l : List T) (cl : Nat) (n : Int) (w : World) (hl : kT.C w Al l.length l) (hcl : l.length ≤ cl) (hb : l.length * 56 ≤ 140737488355328) :
    Calls Tryd.prog 17 #[.slice Al l.length cl, .int .i64 n] w fun e w' => ∃ va vb, e = .returned (.tuple #[va, vb]) ∧ kT.R 27 w' w.heap.size (fun _ => True) va (splitL l n) ∧ kT.R 27 w' w.heap.size (fun _ => True) vb (splitR l n) ∧ Below w.heap.size w w' := by
  have hml := hl.2.1
  go_enter Tryd.func17, Tryd.ntmps17
  go_wp2
  go_loopw [8, 6, 7] (fun i va vb wr => ∃ k : Nat, i = .int .i64 k ∧ k ≤ l.length ∧ kT.R 27 wr w.heap.size (fun b => some b ≠ vb.ownBlock) va (splitL (l.take k) n) ∧ kT.R 27 wr w.heap.size (fun b => some b ≠ va.ownBlock) vb (splitR (l.take k) n) ∧ Below w.heap.size w wr) (fun i _ _ _ => l.length - (intOf i).toNat)
  case atStart => exact ⟨0, rfl, Nat.zero_le _, Kd.R_nil _ _ _ _ _, Kd.R_nil _ _ _ _ _, Below.refl _ _⟩
  case round =>
    obtain ⟨k, rfl, hk, hva, hvb, hB⟩ := hrel
    by_cases hlt : k < l.length
    · obtain ⟨ad, rfl, hv⟩ := kT_at (Kd.C_below hl hB) k hlt
      generalize hx : l.getD k T.z = x at hv
      have HX := Lib.hid hx
      clear hx
      obtain ⟨tc, o, ⟨k', b, i, s⟩⟩ := x
      obtain ⟨hblt, hv0, hv1, hv2, hv3, hv4, hv5⟩ := hv
      simp only at hv0 hv1 hv2 hv3 hv4 hv5
      by_cases hcn : tc < n
      · have hbd : ((splitL (l.take k) n).length + 1) * 56 ≤ 140737488355328 := by
          have : (splitL (l.take k) n).length ≤ (l.take k).length := List.length_filter_le _ _
          rw [List.length_take] at this
          have : (splitL (l.take k) n).length + 1 ≤ l.length := by omega
          exact Nat.le_trans (Nat.mul_le_mul_right _ this) hb
        go_wp2_with (at_builtin; refine Kd.R_append kT (w0 := w) w.heap.size rfl (.tmp 24) (.tmp 26) 22 27 _ 56 rfl Tryd.underlying22 infoT rfl (by decide) (by decide) u6 (splitL (l.take k) n) ⟨tc, o, ⟨k', b, i, s⟩⟩ [.int .i64 tc, .int .i64 o, .int .i64 k', .bool b, .int .i64 i, .string s] (fun b => some b ≠ u7.ownBlock) (fun _ => False) rfl (slice_alloc _ _ _ _) (kT_M _ _ _ _) (fun _ h => h.elim) (Kd.fresh_ok (Kd.R_alloc hvb _)) (Kd.R_alloc hva _) (below_alloc hB _) (by have := hB.size; simp; omega) hbd ?_; intro v1 w1 hva1 hB1 hg1 hat1)
        have hvb1 := row_after (Kd.R_alloc hvb (.cells #[.int .i64 tc, .int .i64 o, .int .i64 k', .bool b, .int .i64 i, .string s] 27)) hg1 hat1
        clear hg1 hat1
        go_roundw
        case rel =>
          refine ⟨k + 1, by go_num, by omega, ?_, ?_, hB1⟩
          · rw [splitL_yes hlt (by rw [HX.out]; exact hcn), HX.out]; exact hva1
          · rw [splitR_yes hlt (by rw [HX.out]; exact hcn)]; exact hvb1
        case measure => simp [intOf]; omega
      · have hbd : ((splitR (l.take k) n).length + 1) * 56 ≤ 140737488355328 := by
          have : (splitR (l.take k) n).length ≤ (l.take k).length := by unfold splitR; rw [List.length_map]; exact List.length_filter_le _ _
          rw [List.length_take] at this
          have : (splitR (l.take k) n).length + 1 ≤ l.length := by omega
          exact Nat.le_trans (Nat.mul_le_mul_right _ this) hb
        go_wp2_with (at_builtin; refine Kd.R_append kT (w0 := w) w.heap.size rfl (.tmp 33) (.tmp 35) 22 27 _ 56 rfl Tryd.underlying22 infoT rfl (by decide) (by decide) u7 (splitR (l.take k) n) ⟨wrap64 (tc - n), o, ⟨k', b, i, s⟩⟩ [.int .i64 (wrap64 (tc - n)), .int .i64 o, .int .i64 k', .bool b, .int .i64 i, .string s] (fun b => some b ≠ u6.ownBlock) (fun _ => False) rfl (slice_alloc _ _ _ _) (kT_M _ _ _ _) (fun _ h => h.elim) (Kd.fresh_ok (Kd.R_alloc hva _)) (Kd.R_alloc hvb _) (below_alloc hB _) (by have := hB.size; simp; omega) hbd ?_; intro v1 w1 hvb1 hB1 hg1 hat1)
        have hva1 := row_after (Kd.R_alloc hva (.cells #[.int .i64 (wrap64 (tc - n)), .int .i64 o, .int .i64 k', .bool b, .int .i64 i, .string s] 27)) hg1 hat1
        clear hg1 hat1
        go_roundw
        case rel =>
          refine ⟨k + 1, by go_num, by omega, ?_, ?_, hB1⟩
          · rw [splitL_no hlt (by rw [HX.out]; exact hcn)]; exact hva1
          · rw [splitR_no hlt (by rw [HX.out]; exact hcn), HX.out]; exact hvb1
        case measure => simp [intOf]; omega
    · obtain rfl : k = l.length := by omega
      go_wp2
      go_ret2
      rw [List.take_length] at hva hvb
      exact ⟨u6, u7, rfl, Kd.R_mono hva (fun _ _ => trivial), Kd.R_mono hvb (fun _ _ => trivial), hB⟩
end Go.Proofs.YtchemmppcdfljaaDoor.Op
