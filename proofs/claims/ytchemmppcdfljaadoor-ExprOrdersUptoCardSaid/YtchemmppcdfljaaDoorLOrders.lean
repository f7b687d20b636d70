/- ExprOrders: the walk. -/
import Derived.Test.YtchemmppcdfljaaDoorSplit
import Derived.Deep.DeepCutAuto
import Derived.Deep.CutBlock
namespace Go.Proofs.YtchemmppcdfljaaDoor.Op
open Go.RowKit Go.Proofs.YtchemmppcdfljaaDoorW.PrintWords
set_option linter.unusedVariables false
set_option linter.unusedSimpArgs false

theorem allB_app (a b : List T) (row : List V) : allB (a ++ b) row = (allB a row && allB b row) := by unfold allB; rw [List.all_append]
theorem allB_rev (a : List T) (row : List V) : allB a.reverse row = allB a row := by unfold allB; rw [List.all_reverse]
theorem rev_step {l : List T} {k : Nat} (h : k < l.length) : l.reverse.take (k + 1) = l.reverse.take k ++ [l.getD (l.length - 1 - k) T.z] := by
  rw [take_getD T.z (by simpa using h)]
  congr 2
  rw [List.getD_eq_getElem?_getD, List.getD_eq_getElem?_getD, List.getElem?_reverse h]

theorem R_empty' {α : Type} (d : Kd α) (e : Nat) (w : World) (base : Nat) (ok : Nat → Prop) (g : Nat) (hg : g = w.heap.size) (hb : base ≤ w.heap.size) (hok : ok g) : d.R e (w.alloc (.cells #[] e)) base ok (.slice (some ⟨g, 0, none⟩) 0 0) [] := by subst hg; exact R_empty d e w base ok hb hok
theorem blk_new' (w : World) (o : Obj) (g : Nat) (hg : g = w.heap.size) : (w.alloc o).heap[g]? = some o := by subst hg; exact blk_new w o
theorem new_two1 (w : World) (o o' : Obj) : ((w.alloc o).alloc o').drew.heap[w.heap.size + 1]? = some o' := blk_new' _ _ _ (by simp only [World.size_alloc, World.size_drew])
theorem new_two0 (w : World) (o o' : Obj) : ((w.alloc o).alloc o').drew.heap[w.heap.size]? = some o := blk_alloc (blk_new _ _) _
theorem all_any' (Al : Option Addr) (l : List T) (n cl : Nat) (A : Option Addr) (row : List V) (c : Nat) (w : World) (hn : l.length = n) (hl : kT.C w Al l.length l) (hcl : l.length ≤ cl) (hr : kV.C w A row.length row) (hc : row.length ≤ c) (hT : Tab w) :
    Calls Tryd.prog 12 #[.slice Al n cl, .slice A row.length c] w fun e w' => e = .returned (.bool (allB l row)) ∧ Below w.heap.size w w' := by subst hn; exact all_any Al l cl A row c w hl hcl hr hc hT
theorem ne_own {g b n c : Nat} (h : g ≠ b) : some g ≠ (Value.slice (some ⟨b, 0, none⟩) n c).ownBlock := by simp [Value.ownBlock, h]
theorem box_c6 {W w1 : World} {g : Nat} {t : TypeId} {v0 v1 v2 v3 v4 v5 : Value} (h : W.heap[g]? = some (.cells #[v0, v1, v2, v3, v4, v5] t (0, 0))) (hb : Below W.heap.size W w1) : w1.cell? ⟨g, 0, none⟩ = some v0 ∧ w1.cell? ⟨g, 1, none⟩ = some v1 ∧ w1.cell? ⟨g, 2, none⟩ = some v2 ∧ w1.cell? ⟨g, 3, none⟩ = some v3 ∧ w1.cell? ⟨g, 4, none⟩ = some v4 ∧ w1.cell? ⟨g, 5, none⟩ = some v5 ∧ Below W.heap.size W w1 :=
  ⟨pw_cell_below hb (start_c6 (Below.refl _ _) h).1, pw_cell_below hb (start_c6 (Below.refl _ _) h).2.1, pw_cell_below hb (start_c6 (Below.refl _ _) h).2.2.1, pw_cell_below hb (start_c6 (Below.refl _ _) h).2.2.2.1, pw_cell_below hb (start_c6 (Below.refl _ _) h).2.2.2.2.1, pw_cell_below hb (start_c6 (Below.refl _ _) h).2.2.2.2.2.1, hb⟩

set_option maxHeartbeats 8000000 in
theorem walkOrders (Al : Option Addr) (l : List T) (cl : Nat) (t : T) (A : Option Addr) (row : List V) (c : Nat) (w : World)
    (hl : kT.C w Al l.length l) (hcl : l.length ≤ cl) (hr : kV.C w A row.length row) (hc : row.length ≤ c) (hT : Tab w) (hl1 : l.length ≤ 1048576) :
    Calls Tryd.prog 5 #[.slice Al l.length cl, t.val, .slice A row.length c] w fun e w' => e = .returned (.bool true) ∧ Below w.heap.size w w' := by
  obtain ⟨tc, o, ⟨k', b', i', s'⟩⟩ := t
  unfold T.val
  go_enter Tryd.func5, Tryd.ntmps5
  go_wp2_with fail
  have hB0 := below_alloc (Below.refl w.heap.size w) (.cells #[.int .i64 tc, .int .i64 o, .int .i64 k', .bool b', .int .i64 i', .string s'] 27)
  have hN0 := blk_new w (.cells #[.int .i64 tc, .int .i64 o, .int .i64 k', .bool b', .int .i64 i', .string s'] 27)
  generalize w.alloc (.cells #[.int .i64 tc, .int .i64 o, .int .i64 k', .bool b', .int .i64 i', .string s'] 27) = W0 at *
  have hl0 := Kd.C_below hl hB0
  go_loopw [14, 7] (fun i v wr => ∃ k : Nat, i = .int .i64 k ∧ k ≤ l.length ∧ kT.R 27 wr W0.heap.size (fun _ => True) v (l.reverse.take k) ∧ Below W0.heap.size W0 wr) (fun i _ _ => l.length - (intOf i).toNat)
  case atStart => exact ⟨0, rfl, Nat.zero_le _, Kd.R_nil _ _ _ _ _, Below.refl _ _⟩
  case round =>
  obtain ⟨k, rfl, hk, hv, hB1⟩ := hrel
  by_cases hlt : k < l.length
  · obtain ⟨ad, rfl, hx⟩ := kT_at (Kd.C_below hl0 hB1) (l.length - 1 - k) (by omega)
    have hstep := Lib.hid (rev_step hlt)
    generalize l.getD (l.length - 1 - k) T.z = x at hx hstep
    obtain ⟨tc2, o2, ⟨k2, b2, i2, s2⟩⟩ := x
    obtain ⟨hblt, hv0, hv1, hv2, hv3, hv4, hv5⟩ := hx
    simp only at hv0 hv1 hv2 hv3 hv4 hv5
    go_wp2_with (at_builtin; refine Kd.R_append kT (w0 := W0) W0.heap.size rfl (.tmp 17) (.tmp 26) 22 27 _ 56 rfl Tryd.underlying22 infoT rfl (by decide) (by decide) u7 (l.reverse.take k) ⟨tc2, o2, ⟨k2, b2, i2, s2⟩⟩ [.int .i64 tc2, .int .i64 o2, .int .i64 k2, .bool b2, .int .i64 i2, .string s2] (fun _ => True) (fun _ => False) rfl rfl (kT_M _ _ _ _) (fun _ h => h.elim) (fun _ _ => trivial) hv hB1 hB1.size (by rw [List.length_take, List.length_reverse]; omega) ?_; intro v1 w1 hv1 hB2 hg2 hat2; clear hg2 hat2)
    go_roundw
    case rel => exact ⟨k + 1, by go_num, by omega, by rw [hstep.out]; exact hv1, hB2⟩
    case measure => simp [intOf]; omega
  · obtain rfl : k = l.length := by omega
    rw [List.take_of_length_le (by simp)] at hv
    obtain ⟨At, ct, rfl, hct, hCt⟩ := Kd.R_reads hv
    rw [List.length_reverse] at hct
    simp only [List.length_reverse]
    clear hv
    go_wp2_with (first | (at_builtin; refine Kd.R_append_rows kT (w0 := wr) wr.heap.size rfl (.tmp 29) (.tmp 30) 22 27 _ 56 rfl Tryd.underlying22 infoT rfl (by decide) (by decide) (.slice (some ⟨wr.heap.size, 0, none⟩) 0 0) [] l Al l.length cl (fun _ => True) (fun _ => False) rfl rfl (R_empty kT _ _ _ _ (Nat.le_refl _) trivial) (Kd.C_below hl0 (hB1.trans ((below_alloc (Below.refl _ _) _).mono hB1.size))) (fun x cs h => kT_KM x cs h) (fun _ h => h.elim) (fun _ _ => trivial) (below_alloc (Below.refl _ _) _) (by simp) (by simp; omega) ?_; intro v1 w1 hv1 hB2 hg2 hat2; clear hg2 hat2) | (at_builtin; refine Kd.R_append_rows kT (w0 := wr) wr.heap.size rfl (.tmp 31) (.tmp 32) 22 27 _ 56 rfl Tryd.underlying22 infoT rfl (by decide) (by decide) v1 ([] ++ l) l.reverse At l.length ct (fun _ => True) (fun _ => False) rfl rfl hv1 (by have z := Kd.C_below hCt hB2; rw [List.length_reverse] at z; exact z) (fun x cs h => kT_KM x cs h) (fun _ h => h.elim) (fun _ _ => trivial) hB2 hB2.size (by simp; omega) ?_; intro v2 w2 hv2 hB3 hg3 hat3; clear hg3 hat3 hv1; obtain ⟨A2, c2, rfl, hc2, hC2⟩ := Kd.R_reads hv2; clear hv2) | fail)
    have hN2 := blk_below (blk_below hN0 hB1) hB3
    have hl2 := Kd.C_below (Kd.C_below hl0 hB1) hB3
    go_region_held3 (fun W' => W'.cell? ⟨w.heap.size, 0, none⟩ = some (.int .i64 tc) ∧ W'.cell? ⟨w.heap.size, 1, none⟩ = some (.int .i64 o) ∧ W'.cell? ⟨w.heap.size, 2, none⟩ = some (.int .i64 k') ∧ W'.cell? ⟨w.heap.size, 3, none⟩ = some (.bool b') ∧ W'.cell? ⟨w.heap.size, 4, none⟩ = some (.int .i64 i') ∧ W'.cell? ⟨w.heap.size, 5, none⟩ = some (.string s') ∧ Below w2.heap.size w2 W')
      ((exact box_c6 hN2 (by repeat (first | assumption | exact Below.refl _ _ | apply below_alloc | apply below_drew))))
      ((first
        | (((with_reducible (show if Region.wanted ({ dst := some 36, op := _, type := _, pos := _, after := _, guard := _ } : Oper) _ = true then _ else _)); refine Kd.R_append_rows_step kT (w0 := w2) w2.heap.size (by rfl) (.tmp 34) (.tmp 35) 22 27 _ 56 rfl Tryd.underlying22 infoT rfl (by decide) (by decide) _ [] l Al l.length cl (fun _ => True) (fun _ => False) rfl rfl (by repeat (first | exact R_empty' kT _ _ _ _ _ (by simp [World.size_alloc]) (by simp [World.size_alloc]; try omega) trivial | apply Kd.R_alloc | apply Kd.R_drew)) (Kd.C_below hl2 (by repeat (first | assumption | exact Below.refl _ _ | apply below_alloc | apply below_drew))) (fun x cs h => kT_KM x cs h) (fun _ h => h.elim) (fun _ _ => trivial) (by repeat (first | assumption | exact Below.refl _ _ | apply below_alloc | apply below_drew)) (by simp [World.size_alloc]; try omega) (by simp; omega) ?_; intro v1 w1 hv1 hB4 hg hat))
        | (((with_reducible (show if Region.wanted ({ dst := some 39, op := _, type := _, pos := _, after := _, guard := _ } : Oper) _ = true then _ else _)); refine Kd.R_append_rows_step kT (w0 := w2) w2.heap.size (by rfl) (.tmp 36) (.tmp 38) 22 27 _ 56 rfl Tryd.underlying22 infoT rfl (by decide) (by decide) v1 ([] ++ l) [⟨tc, o, ⟨k', b', i', s'⟩⟩] _ 1 1 (fun _ => True) (fun _ => False) rfl rfl (by repeat (first | exact hv1 | apply Kd.R_alloc | apply Kd.R_drew)) (show kT.C _ _ 1 _ from (by first
            | exact C_block1 (t := 27) (fr := (0, 0)) (blk_new w1 _) (kT_K _ _)
            | exact C_block1 (t := 27) (fr := (0, 0)) (blk_grown (new_two1 w2 _ _) hg (ne_own (by omega))) (kT_K _ _)
            | exact C_block1 (t := 27) (fr := (0, 0)) (blk_grown (new_two0 w2 _ _) hg (ne_own (by omega))) (kT_K _ _)
            | (trace_state; fail))) (fun x cs h => kT_KM x cs h) (fun _ h => h.elim) (fun _ _ => trivial) (by repeat (first | assumption | exact Below.refl _ _ | apply below_alloc | apply below_drew)) (by first | exact hB4.size | (have z := hB4.size; simp only [World.size_alloc]; omega)) (by simp; omega) ?_; intro v2 w3 hv2 hB5 hg2 hat2))))
    all_goals
      obtain ⟨A3, c3, rfl, hc3, hC3⟩ := Kd.R_reads hv2
      have hw := hB0.trans ((hB1.trans ((hB3.trans (hB5.mono hB3.size)).mono hB1.size)).mono hB0.size)
      have hCt3 := Kd.C_below (Kd.C_below hCt hB3) hB5
      have hC23 := Kd.C_below hC2 hB5
      have F1 := Lib.hid (allB_rev l row)
      have F2 := Lib.hid (show allB ([] ++ l ++ l.reverse) row = allB l row by rw [List.nil_append, allB_app, allB_rev, Bool.and_self])
      have F3 := Lib.hid (show allB ([] ++ l ++ [(⟨tc, o, ⟨k', b', i', s'⟩⟩ : T)]) row = (allB l row && termB ⟨tc, o, ⟨k', b', i', s'⟩⟩ row) by rw [List.nil_append, allB_app]; simp [allB])
      have hNb := blk_below hN2 hB5
      clear hv2 hv1 hB4 hg hat hg2 hat2
      go_wp2_with fail
      refine (all_any Al l cl A row c _ (Kd.C_below hl hw) hcl (Kd.C_below hr hw) hc (hT.below hw)).mono ?_
      rintro e w4 ⟨rfl, hb⟩
      replace hw := hw.trans (hb.mono hw.size)
      replace hCt3 := Kd.C_below hCt3 hb
      replace hC23 := Kd.C_below hC23 hb
      replace hC3 := Kd.C_below hC3 hb
      replace hNb := blk_below hNb hb
      clear hb
      cases hA : allB l row
      all_goals
        rw [hA] at F1 F2 F3
        have HA := Lib.hid hA
        clear hA
        go_wp2_with fail
        refine (alive_any _ (hT.below hw)).mono ?_
        rintro e w5 ⟨rfl, hb⟩
        replace hw := hw.trans (hb.mono hw.size)
        replace hCt3 := Kd.C_below hCt3 hb
        replace hC23 := Kd.C_below hC23 hb
        replace hC3 := Kd.C_below hC3 hb
        replace hNb := blk_below hNb hb
        clear hb
        go_wp2_with fail
        refine (all_any' At l.reverse l.length ct A row c _ (List.length_reverse) hCt3 (by simpa using hct) (Kd.C_below hr hw) hc (hT.below hw)).mono ?_
        rintro e w6 ⟨rfl, hb⟩
        replace hw := hw.trans (hb.mono hw.size)
        replace hC23 := Kd.C_below hC23 hb
        replace hC3 := Kd.C_below hC3 hb
        replace hNb := blk_below hNb hb
        clear hb
        rw [F1.out]
        go_wp2_with fail
        refine (all_any' A2 ([] ++ l ++ l.reverse) (l.length + l.length) c2 A row c _ (by simp) hC23 hc2 (Kd.C_below hr hw) hc (hT.below hw)).mono ?_
        rintro e w7 ⟨rfl, hb⟩
        replace hw := hw.trans (hb.mono hw.size)
        replace hC3 := Kd.C_below hC3 hb
        replace hNb := blk_below hNb hb
        clear hb
        rw [F2.out]
        go_wp2_with fail
        refine (all_any' A3 ([] ++ l ++ [(⟨tc, o, ⟨k', b', i', s'⟩⟩ : T)]) (l.length + 1) c3 A row c _ (by simp) hC3 hc3 (Kd.C_below hr hw) hc (hT.below hw)).mono ?_
        rintro e w8 ⟨rfl, hb⟩
        replace hw := hw.trans (hb.mono hw.size)
        replace hNb := blk_below hNb hb
        clear hb
        rw [F3.out]
      · rw [Bool.false_and]
        go_wp2
        go_ret
        exact ⟨rfl, hw⟩
      · rw [Bool.true_and]
        have hq := term_any ⟨tc, o, ⟨k', b', i', s'⟩⟩ A row c w8 (Kd.C_below hr hw) hc (hT.below hw)
        generalize termB ⟨tc, o, ⟨k', b', i', s'⟩⟩ row = q at *
        have hq := Lib.hid hq
        obtain ⟨g0, g1, g2, g3, g4, g5, -⟩ := box_c6 hNb (Below.refl _ _)
        go_wp2_with fail
        refine hq.out.mono ?_
        rintro e w9 ⟨rfl, hb⟩
        go_wp2
        go_ret
        exact ⟨ret_bool (by simp), hw.trans (hb.mono hw.size)⟩
end Go.Proofs.YtchemmppcdfljaaDoor.Op
