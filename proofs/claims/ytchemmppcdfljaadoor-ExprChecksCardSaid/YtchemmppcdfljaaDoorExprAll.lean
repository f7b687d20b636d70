/- All terms of a list; what the law calls 'alive'. -/
import Derived.Test.YtchemmppcdfljaaDoorExprRef
import Derived.LoopTactic
import Derived.Deep.RegionHeld3
import Derived.Deep.Light
namespace Go.Proofs.YtchemmppcdfljaaDoor.Op
open Go.RowKit Go.Proofs.YtchemmppcdfljaaDoorW.PrintWords
set_option linter.unusedVariables false

def allB (l : List T) (row : List V) : Bool := l.all fun t => termB t row
theorem allB_no {l : List T} {row : List V} {k : Nat} (hk : k < l.length) (h : termB (l.getD k T.z) row = false) : allB l row = false := by
  unfold allB
  rw [List.all_eq_false]
  refine ⟨l[k], List.getElem_mem hk, ?_⟩
  rw [List.getD_eq_getElem?_getD, List.getElem?_eq_getElem hk] at h
  simpa using h
theorem allB_yes {l : List T} {row : List V} (h : ∀ j, j < l.length → termB (l.getD j T.z) row = true) : allB l row = true := by
  unfold allB
  rw [List.all_eq_true]
  intro x hx
  obtain ⟨j, hj, rfl⟩ := List.getElem_of_mem hx
  have := h j hj
  rwa [List.getD_eq_getElem?_getD, List.getElem?_eq_getElem hj] at this

set_option maxHeartbeats 2000000 in
theorem all_any (Al : Option Addr) (l : List T) (cl : Nat) (A : Option Addr) (row : List V) (c : Nat) (w : World) (hl : kT.C w Al l.length l) (hcl : l.length ≤ cl) (hr : kV.C w A row.length row) (hc : row.length ≤ c) (hT : Tab w) :
    Calls Tryd.prog 12 #[.slice Al l.length cl, .slice A row.length c] w fun e w' => e = .returned (.bool (allB l row)) ∧ Below w.heap.size w w' := by
  have hml := hl.2.1
  have hm := hr.2.1
  go_enter Tryd.func12, Tryd.ntmps12
  go_wp2
  go_loopw [9] (fun i wr => ∃ k : Nat, i = .int .i64 k ∧ k ≤ l.length ∧ (∀ j, j < k → termB (l.getD j T.z) row = true) ∧ Below w.heap.size w wr) (fun i _ => l.length - (intOf i).toNat)
  case atStart => exact ⟨0, rfl, Nat.zero_le _, fun _ h => by omega, Below.refl _ _⟩
  case round =>
    obtain ⟨k, rfl, hk, hall, hB⟩ := hrel
    have HA := Lib.hid hall
    clear hall
    by_cases hlt : k < l.length
    · obtain ⟨ad, rfl, hv⟩ := kT_at (Kd.C_below hl hB) k hlt
      generalize hx : l.getD k T.z = x at hv
      have HX := Lib.hid hx
      clear hx
      obtain ⟨tc, o, ⟨k', b, i, s⟩⟩ := x
      obtain ⟨hblt, hv0, hv1, hv2, hv3, hv4, hv5⟩ := hv
      simp only at hv0 hv1 hv2 hv3 hv4 hv5
      cases htb : termB ⟨tc, o, ⟨k', b, i, s⟩⟩ row
      all_goals
        have HTB := Lib.hid htb
        clear htb
        go_wp2_with fail
        refine (term_any ⟨tc, o, ⟨k', b, i, s⟩⟩ A row c _ (Kd.C_below hr (below_alloc hB _)) hc (hT.below (below_alloc hB _))).mono ?_
        rintro e w1 ⟨rfl, hb⟩
        rw [HTB.out]
        have hB1 : Below w.heap.size w w1 := (below_alloc hB _).trans (hb.mono (by have := hB.size; simp; omega))
        clear hb
        go_wp2
      · go_ret
        refine ⟨ret_bool (allB_no hlt (by rw [HX.out]; exact HTB.out)), hB1⟩
      · go_roundw
        case rel =>
          refine ⟨k + 1, by go_num, by omega, fun j hj => ?_, hB1⟩
          rcases Nat.lt_or_ge j k with hjk | hjk
          · exact HA.out j hjk
          · obtain rfl : j = k := by omega
            rw [HX.out]; exact HTB.out
        case measure => simp [intOf]; omega
    · obtain rfl : k = l.length := by omega
      go_wp2
      go_ret
      exact ⟨ret_bool (allB_yes HA.out), hB⟩

set_option maxHeartbeats 2000000 in
theorem ref_all (Al : Option Addr) (l : List T) (cl : Nat) (A : Option Addr) (row : List V) (c : Nat) (w : World) (hl : kT.C w Al l.length l) (hcl : l.length ≤ cl) (hr : kV.C w A row.length row) (hc : row.length ≤ c) :
    Calls Tryd.prog 13 #[.slice Al l.length cl, .slice A row.length c] w fun e w' => e = .returned (.bool (allB l row)) ∧ Below w.heap.size w w' := by
  have hml := hl.2.1
  have hm := hr.2.1
  go_enter Tryd.func13, Tryd.ntmps13
  go_wp2
  go_loopw [5] (fun i wr => ∃ k : Nat, i = .int .i64 k ∧ k ≤ l.length ∧ (∀ j, j < k → termB (l.getD j T.z) row = true) ∧ Below w.heap.size w wr) (fun i _ => l.length - (intOf i).toNat)
  case atStart => exact ⟨0, rfl, Nat.zero_le _, fun _ h => by omega, Below.refl _ _⟩
  case round =>
    obtain ⟨k, rfl, hk, hall, hB⟩ := hrel
    have HA := Lib.hid hall
    clear hall
    by_cases hlt : k < l.length
    · obtain ⟨ad, rfl, hv⟩ := kT_at (Kd.C_below hl hB) k hlt
      generalize hx : l.getD k T.z = x at hv
      have HX := Lib.hid hx
      clear hx
      obtain ⟨tc, o, ⟨k', b, i, s⟩⟩ := x
      obtain ⟨hblt, hv0, hv1, hv2, hv3, hv4, hv5⟩ := hv
      simp only at hv0 hv1 hv2 hv3 hv4 hv5
      cases htb : termB ⟨tc, o, ⟨k', b, i, s⟩⟩ row
      all_goals
        have HTB := Lib.hid htb
        clear htb
        go_wp2_with fail
        refine (ref_term ⟨tc, o, ⟨k', b, i, s⟩⟩ A row c _ (Kd.C_below hr hB) hc).mono ?_
        rintro e w1 ⟨rfl, hb⟩
        rw [HTB.out]
        have hB1 : Below w.heap.size w w1 := hB.trans (hb.mono hB.size)
        clear hb
        go_wp2
      · go_ret
        refine ⟨ret_bool (allB_no hlt (by rw [HX.out]; exact HTB.out)), hB1⟩
      · go_roundw
        case rel =>
          refine ⟨k + 1, by go_num, by omega, fun j hj => ?_, hB1⟩
          rcases Nat.lt_or_ge j k with hjk | hjk
          · exact HA.out j hjk
          · obtain rfl : j = k := by omega
            rw [HX.out]; exact HTB.out
        case measure => simp [intOf]; omega
    · obtain rfl : k = l.length := by omega
      go_wp2
      go_ret
      exact ⟨ret_bool (allB_yes HA.out), hB⟩

set_option maxHeartbeats 2000000 in
theorem alive_any (w : World) (hT : Tab w) :
    Calls Tryd.prog 11 #[] w fun e w' => e = .returned (.bool true) ∧ Below w.heap.size w w' := by
  go_enter Tryd.func11, Tryd.ntmps11
  go_wp2_with fail
  have hb0 := below_alloc (Below.refl w.heap.size w) (.cells #[.int .i64 2, .bool false, .int .i64 5, .string ⟨#[]⟩] 25)
  have hC := C_block1 (d := kV) (x := ⟨2, false, 5, ⟨#[]⟩⟩) (blk_new w (.cells #[.int .i64 2, .bool false, .int .i64 5, .string ⟨#[]⟩] 25)) (kV_K _ _)
  refine (term_any ⟨0, 0, ⟨2, false, 5, ⟨#[]⟩⟩⟩ _ [⟨2, false, 5, ⟨#[]⟩⟩] 1 _ hC (by simp) (hT.below hb0)).mono ?_
  rintro e w1 ⟨rfl, hb1⟩
  rw [show termB ⟨0, 0, ⟨2, false, 5, ⟨#[]⟩⟩⟩ [⟨2, false, 5, ⟨#[]⟩⟩] = true from by decide]
  have hC1 := Kd.C_below hC hb1
  have hB1 : Below w.heap.size w w1 := hb0.trans (hb1.mono (by simp))
  clear hb1 hb0 hC
  go_wp2_with fail
  refine (term_any ⟨0, 1, ⟨0, false, 0, ⟨#[]⟩⟩⟩ _ [⟨2, false, 5, ⟨#[]⟩⟩] 1 _ hC1 (by simp) (hT.below hB1)).mono ?_
  rintro e w2 ⟨rfl, hb2⟩
  rw [show termB ⟨0, 1, ⟨0, false, 0, ⟨#[]⟩⟩⟩ [⟨2, false, 5, ⟨#[]⟩⟩] = false from by decide]
  have hB2 : Below w.heap.size w w2 := hB1.trans (hb2.mono hB1.size)
  clear hb2 hB1
  go_wp2_with fail
  refine (all_any none [] 0 none [] 0 _ (Kd.C_nil _ _) (by simp) (Kd.C_nil _ _) (by simp) (hT.below hB2)).mono ?_
  rintro e w3 ⟨rfl, hb3⟩
  rw [show allB [] [] = true from rfl]
  go_wp2
  go_ret
  exact ⟨rfl, hB2.trans (hb3.mono hB2.size)⟩
end Go.Proofs.YtchemmppcdfljaaDoor.Op
