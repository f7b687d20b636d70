/- Printed by mp.py (this session's) with the kit's print: plain functions with the answers of the Go code, and the proofs of it. -/
import Derived.Test.YtfepfpcilmaojaaQVx0
namespace Go.Proofs.Ytfepfpcilmaojaa.QV
open Go.RowKit Go.Proofs.YtfepfpcilmaojaaW.PrintWords Go.Proofs.YtfepfpcilmaojaaW.PrintLast Go.Proofs.YtfepfpcilmaojaaW.PrintMore
attribute [local go_sem] max2_int min2_int max_two min_two max_three min_three max_four min_four   -- for this text's walks alone
set_option linter.unusedVariables false
set_option linter.unusedSimpArgs false

/-! ### hayloftref10_Purge: function 21 -/
def hayloftref10_Purge.l0 : Nat → List (S34) → Int → List (S34) → Int → Option ((List (S34)))
  | 0, _, _, _, _ => none
  | k + 1, x0, x1, x5, x6 => if x6 < (x0.length : Int) then (if 0 ≤ x6 then (if ((rd_T34 x0 x6).f2) = 0 then (if x5.length < 2932031007402 then (hayloftref10_Purge.l0 k x0 x1 (x5 ++ [(⟨(⟨(rd_T34 x0 x6).f0.f0, (rd_T34 x0 x6).f0.f1⟩ : S31), (rd_T34 x0 x6).f1, (rd_T34 x0 x6).f2⟩ : S34)]) (wrap64 (x6 + 1))) else (none)) else (if ((rd_T34 x0 x6).f2) > x1 then (if x5.length < 2932031007402 then (hayloftref10_Purge.l0 k x0 x1 (x5 ++ [(⟨(⟨(rd_T34 x0 x6).f0.f0, (rd_T34 x0 x6).f0.f1⟩ : S31), (rd_T34 x0 x6).f1, (rd_T34 x0 x6).f2⟩ : S34)]) (wrap64 (x6 + 1))) else (none)) else (hayloftref10_Purge.l0 k x0 x1 x5 (wrap64 (x6 + 1))))) else (none)) else (some x5)
def hayloftref10_Purge.f (k : Nat) (l0 : List (S34)) (a1 : Int) : Option ((List (S34))) := hayloftref10_Purge.l0 k l0 a1 ([] : List (S34)) 0
theorem hayloftref10_Purge.mono_l : ∀ k, (∀ y0 y1 y2 y3, LeO (hayloftref10_Purge.l0 k y0 y1 y2 y3) (hayloftref10_Purge.l0 (k + 1) y0 y1 y2 y3))
  | 0 => fun _ _ _ _ r h => by simp [hayloftref10_Purge.l0] at h
  | k + 1 => by
    have ih0 := hayloftref10_Purge.mono_l k
    · intro y0 y1 y2 y3
      unfold hayloftref10_Purge.l0
      repeat' first
      | (with_reducible exact ih0 _ _ _ _)
      | (with_reducible exact LeO.refl _)
      | (with_reducible exact LeO.none _)
      | (with_reducible refine LeO.ite ?_ ?_)
      | (with_reducible refine LeO.bind ?_ (fun _ => ?_))
      | exact ih0 _ _ _ _
      | exact LeO.none _
      | refine LeO.ite ?_ ?_
      | refine LeO.bind ?_ (fun _ => ?_)
theorem hayloftref10_Purge.mono : ∀ a0 a1 k, LeO (hayloftref10_Purge.f k a0 a1) (hayloftref10_Purge.f (k + 1) a0 a1) := by
  intro a0 a1 k
  have ih0 := hayloftref10_Purge.mono_l k
  unfold hayloftref10_Purge.f
  repeat' first
      | (with_reducible exact ih0 _ _ _ _)
      | (with_reducible exact LeO.refl _)
      | (with_reducible exact LeO.none _)
      | (with_reducible refine LeO.ite ?_ ?_)
      | (with_reducible refine LeO.bind ?_ (fun _ => ?_))
      | exact ih0 _ _ _ _
      | exact LeO.none _
      | refine LeO.ite ?_ ?_
      | refine LeO.bind ?_ (fun _ => ?_)
set_option maxHeartbeats 8000000 in
set_option maxRecDepth 100000 in
theorem hayloftref10_Purge.calls (k : Nat) (P0_ : Nat → Prop) (A0 : Option Addr) (c0 : Nat) (l0 : List (S34)) (a1 : Int) (r : List (S34)) (w : World) (hs0 : Kd.V k34 34 w w.heap.size (fun k_ => P0_ k_) (.slice A0 l0.length c0) l0) (h : hayloftref10_Purge.f k l0 a1 = some r) :
    Calls Try.prog 21 #[.slice A0 l0.length c0, .int .u64 a1] w fun e w' => ∃ v0_ : Value, e = .returned (v0_) ∧ Kd.N k34 34 w' w.heap.size (fun k_ => (P0_ k_ ∨ w.heap.size ≤ k_)) v0_ r ∧ Below w.heap.size w w' := by
  have hu34 := Try.underlying34
  have HO0 := Aside0.mk (show Kd.V k34 34 w w.heap.size (fun k_ => (P0_ k_ ∨ w.heap.size ≤ k_)) (.slice A0 l0.length c0) l0 from Kd.V_mono hs0 (fun k_ hk => .inl hk))
  have HB := Aside0.mk (Below.refl w.heap.size w)
  have H : (hayloftref10_Purge.l0 k l0 a1 ([] : List (S34)) 0) = some r := h
  clear h
  have H' := Aside0.mk H
  clear H
  go_enter Try.func21, Try.ntmps21
  go_wp2
  go_loopg [5, 6] k (fun kq v5 v6 w' => ∃ (x5_1 : List (S34)) (x6_1 : Int), v6 = .int .i64 x6_1 ∧ Aside0 (hayloftref10_Purge.l0 kq l0 a1 x5_1 x6_1 = some r) ∧ Aside0 (kq ≤ k) ∧ Aside0 (Kd.V k34 34 w' w.heap.size (fun k_ => (P0_ k_ ∨ w.heap.size ≤ k_) ∧ some k_ ≠ (v5 : Value).ownBlock) (.slice A0 l0.length c0) l0) ∧ Aside0 (Kd.N k34 34 w' w.heap.size (fun k_ => (P0_ k_ ∨ w.heap.size ≤ k_)) v5 x5_1) ∧ Aside0 (Below w.heap.size w w'))
  case atStart => exact ⟨(([] : List (S34))), (0), (by first | rfl | (simp; done) | (simp [*]; done)), H', ⟨Nat.le_refl _⟩, ⟨by (with_reducible repeat (first | apply Kd.V_alloc | apply Kd.V_drewN | apply Kd.V_drew)); exact Kd.V_mono HO0.out (fun _ hk => ⟨hk, (by simp [Value.ownBlock])⟩)⟩, ⟨by first | exact Kd.S_nil _ _ _ _ _ | exact Kd.N_nil _ _ _ _ _ | exact Kd.V_nil _ _ _ _ _ | exact Kd.Q_nil _ _ _ _ _ | exact Kd.R_nil _ _ _ _ _⟩, ⟨by repeat (first | (with_reducible first | exact HB.out | apply below_alloc | apply pw_below_drewN | apply below_drew1) | exact HB.out)⟩⟩
  case round =>
    clear H'
    try clear c2
    try clear p2
    obtain ⟨x5_1, x6_1, rfl, HA, HK1, HO_0, HO_5, HB⟩ := hrel
    cases gk with
    | zero => exact absurd HA.out (by simp [hayloftref10_Purge.l0])
    | succ k1 =>
      have H := HA.out
      clear HA
      simp only [hayloftref10_Purge.l0] at H
      by_cases c3 : x6_1 < (l0.length : Int)
      · rw [if_pos c3] at H
        have c3b0 : decide (x6_1 < (l0.length : Int)) = true := decide_eq_true c3
        clear c3
        by_cases c4 : 0 ≤ x6_1
        · rw [if_pos c4] at H
          have c4b0 : decide (0 ≤ x6_1) = true := decide_eq_true c4
          clear c4
          by_cases c5 : ((rd_T34 l0 x6_1).f2) = 0
          · rw [if_pos c5] at H
            have c5b0 : (((rd_T34 l0 x6_1).f2) == 0) = true := beq_iff_eq.mpr c5
            have c5b1 : (((rd_T34 l0 x6_1).f2) != 0) = false := bne_eq_false_iff_eq.mpr c5
            clear c5
            by_cases c6 : x5_1.length < 2932031007402
            · rw [if_pos c6] at H
              have LMc6 := Aside0.mk c6
              clear c6
              obtain ⟨y214, hy214⟩ : ∃ y_ : List (S34), y_ = (x5_1 ++ [(⟨(⟨(rd_T34 l0 x6_1).f0.f0, (rd_T34 l0 x6_1).f0.f1⟩ : S31), (rd_T34 l0 x6_1).f1, (rd_T34 l0 x6_1).f2⟩ : S34)]) := ⟨_, rfl⟩
              replace H : (hayloftref10_Purge.l0 k1 l0 a1 y214 (wrap64 (x6_1 + 1))) = some r := by first | (rw [hy214]; with_reducible exact H) | (have H2_ := (Option.bind_some _ _).symm.trans H; rw [hy214]; with_reducible exact H2_) | (have H2_ := (Option.bind_some _ _).symm.trans H; with_reducible exact H2_) | with_reducible exact H | (rw [hy214]; exact H) | exact H
              have Ny214 := Aside0.mk hy214
              clear hy214
              have H' := Aside0.mk H
              clear H
              have p212 : 0 ≤ (x6_1 : Int) := of_decide_eq_true (by first | (with_reducible assumption) | assumption)
              have q212 : x6_1 < (l0.length : Int) := of_decide_eq_true (by first | (with_reducible assumption) | assumption)
              obtain ⟨ad212, A212_2, c212_2, e212, hx212_0, hx212_1, hx212_2, hx212_3, hl212_2, hi212_2⟩ := at_T34 (Kd.V_reads' HO_0.out).2.2 x6_1 p212 q212
              cases e212
              obtain ⟨ce212, hce212, hMe212, hcc212⟩ := Kd.V_get HO_0.out z34 x6_1 p212 (by first | exact q212 | exact of_decide_eq_true (by first | (with_reducible assumption) | assumption) | (have e_ := (Kd.V_reads' HO_0.out).1; omega))
              obtain ⟨ua212_2, uc212_2, rfl, ul212_2, ge212_2⟩ := k34_openF hMe212
              have hv212_2 := hcc212 2 _ rfl
              rw [add_field _ _ 2 (by omega)] at hv212_2
              replace hv212_2 := Option.some.inj (hv212_2.symm.trans hx212_2)
              injection hv212_2 with hva_ hvn_ hvc_
              rw [hva_] at ge212_2
              rw [hvc_] at ul212_2
              have HL212_2 := Aside0.mk (show Kd.V k36 36 _ w.heap.size _ _ ((rd_T34 l0 x6_1).f1) from Kd.V_mk ul212_2 ge212_2)
              clear hva_ hvn_ hvc_ ge212_2 ul212_2
              clear hcc212 hce212
              have HR212_2 := Aside0.mk hi212_2
              have HC212_2 := Aside0.mk hl212_2
              clear hi212_2 hl212_2
              replace p212 := eq_true p212
              replace q212 := eq_true q212
              have p213 : 0 ≤ (x6_1 : Int) := of_decide_eq_true (by first | (with_reducible assumption) | assumption)
              have q213 : x6_1 < (l0.length : Int) := of_decide_eq_true (by first | (with_reducible assumption) | assumption)
              obtain ⟨ad213, A213_2, c213_2, e213, hx213_0, hx213_1, hx213_2, hx213_3, hl213_2, hi213_2⟩ := at_T34 (Kd.V_reads' HO_0.out).2.2 x6_1 p213 q213
              obtain rfl : ad212 = ad213 := (by injection e213)
              obtain ⟨ce213, hce213, hMe213, hcc213⟩ := Kd.V_get HO_0.out z34 x6_1 p213 (by first | exact q213 | exact of_decide_eq_true (by first | (with_reducible assumption) | assumption) | (have e_ := (Kd.V_reads' HO_0.out).1; omega))
              obtain ⟨ua213_2, uc213_2, rfl, ul213_2, ge213_2⟩ := k34_openF hMe213
              have hv213_2 := hcc213 2 _ rfl
              rw [add_field _ _ 2 (by omega)] at hv213_2
              replace hv213_2 := Option.some.inj (hv213_2.symm.trans hx213_2)
              injection hv213_2 with hva_ hvn_ hvc_
              rw [hva_] at ge213_2
              rw [hvc_] at ul213_2
              have HL213_2 := Aside0.mk (show Kd.V k36 36 _ w.heap.size _ _ ((rd_T34 l0 x6_1).f1) from Kd.V_mk ul213_2 ge213_2)
              clear hva_ hvn_ hvc_ ge213_2 ul213_2
              clear hcc213 hce213
              have HR213_2 := Aside0.mk hi213_2
              have HC213_2 := Aside0.mk hl213_2
              clear hi213_2 hl213_2
              replace p213 := eq_true p213
              replace q213 := eq_true q213
              have ea_ := Option.some.inj (hx212_2.symm.trans hx213_2)
              injection ea_ with ea_ en_ ec_
              subst ea_
              subst ec_
              clear en_
              go_wp2_with (first | ((with_reducible refine gate_builtin (b := .append) (xs := #[.tmp 28, .tmp 33]) rfl ?_); at_builtin; refine Kd.N_append k34 (w0 := w) w.heap.size rfl (.tmp 28) (.tmp 33) 22 34 (.agg #[(.int .u64 0), (.int .u32 0), (.slice none 0 0), (.int .u64 0)]) 48 rfl Try.underlying22 info34 rfl (by decide) (by omega) u5 x5_1 (⟨(⟨(rd_T34 l0 x6_1).f0.f0, (rd_T34 l0 x6_1).f0.f1⟩ : S31), (rd_T34 l0 x6_1).f1, (rd_T34 l0 x6_1).f2⟩ : S34) [.int .u64 ((rd_T34 l0 x6_1).f0.f0), .int .u32 ((rd_T34 l0 x6_1).f0.f1), .slice A212_2 ((rd_T34 l0 x6_1).f1).length c212_2, .int .u64 ((rd_T34 l0 x6_1).f2)] (fun k_ => (P0_ k_ ∨ w.heap.size ≤ k_)) (fun k_ => ((fun k_ => (P0_ k_ ∨ w.heap.size ≤ k_))) k_ ∧ some k_ ≠ (u5 : Value).ownBlock) rfl rfl ?aP (fun _ hk => hk) ?aF ?aO ?aB ?aS ?aL ?_; (case aP => exact (k34_mkF _ _ (⟨(⟨(rd_T34 l0 x6_1).f0.f0, (rd_T34 l0 x6_1).f0.f1⟩ : S31), (rd_T34 l0 x6_1).f1, (rd_T34 l0 x6_1).f2⟩ : S34) (Kd.V_reads' (Kd.V_mono (ok' := (fun k_ => ((fun k_ => (P0_ k_ ∨ w.heap.size ≤ k_))) k_ ∧ some k_ ≠ (u5 : Value).ownBlock)) (HL213_2.out) (fun k_ hk => ⟨hk.1, hk.2⟩))).2.1 (Kd.V_F (Kd.V_mono (ok' := (fun k_ => ((fun k_ => (P0_ k_ ∨ w.heap.size ≤ k_))) k_ ∧ some k_ ≠ (u5 : Value).ownBlock)) (HL213_2.out) (fun k_ hk => ⟨hk.1, hk.2⟩))))); (case aB => exact (by repeat (first | (with_reducible first | exact HB.out | apply below_alloc | apply pw_below_drewN | apply below_drew1) | exact HB.out))); (case aF => exact (fun k_ hk => (.inr (Nat.le_trans (below_size (by repeat (first | (with_reducible first | exact HB.out | apply below_alloc | apply pw_below_drewN | apply below_drew1) | exact HB.out))) hk)))); (case aO => exact (by (with_reducible repeat (first | apply Kd.N_alloc | apply Kd.N_drewN | apply Kd.N_drew)); exact HO_5.out)); (case aS => exact (below_size (by repeat (first | (with_reducible first | exact HB.out | apply below_alloc | apply pw_below_drewN | apply below_drew1) | exact HB.out)))); (case aL => have := LMc6.out; omega); intro v215 w7 ho hb hg hat; rw [← Ny214.out] at ho; have n0_ := Aside0.mk (Kd.V_afterv (ok := (fun k_ => (P0_ k_ ∨ w.heap.size ≤ k_))) (by (with_reducible repeat (first | apply Kd.V_alloc | apply Kd.V_drewN | apply Kd.V_drew)); exact HO_0.out) hg hat); have n1_ := Aside0.mk (Kd.V_afterv (ok := (fun k_ => (P0_ k_ ∨ w.heap.size ≤ k_))) (by (with_reducible repeat (first | apply Kd.V_alloc | apply Kd.V_drewN | apply Kd.V_drew)); exact HL212_2.out) hg hat); have n2_ := Aside0.mk (Kd.V_afterv (ok := (fun k_ => (P0_ k_ ∨ w.heap.size ≤ k_))) (by (with_reducible repeat (first | apply Kd.V_alloc | apply Kd.V_drewN | apply Kd.V_drew)); exact HL213_2.out) hg hat); have n3_ := Aside0.mk (hb); have n4_ := Aside0.mk (ho); clear HO_0; clear HL212_2; clear HL213_2; clear HB; clear HO_5; have HO_0 := n0_; have HL212_2 := n1_; have HL213_2 := n2_; have HB := n3_; have HO216 := n4_; clear n0_ n1_ n2_ n3_ n4_; clear ho hb hg hat))
              go_roundg k1
              case measure => have := HK1.out; omega
              case rel => exact ⟨(y214), (wrap64 (x6_1 + 1)), (by first | rfl | (simp; done) | (simp [*]; done)), H', ⟨by have := HK1.out; omega⟩, ⟨by (with_reducible repeat (first | apply Kd.V_alloc | apply Kd.V_drewN | apply Kd.V_drew)); exact HO_0.out⟩, ⟨by (with_reducible repeat (first | apply Kd.N_alloc | apply Kd.N_drewN | apply Kd.N_drew)); exact HO216.out⟩, ⟨by repeat (first | (with_reducible first | exact HB.out | apply below_alloc | apply pw_below_drewN | apply below_drew1) | exact HB.out)⟩⟩
            · rw [if_neg c6] at H
              exact absurd H (by simp)
          · rw [if_neg c5] at H
            have c5b0 : (((rd_T34 l0 x6_1).f2) == 0) = false := beq_eq_false_iff_ne.mpr c5
            have c5b1 : (((rd_T34 l0 x6_1).f2) != 0) = true := bne_iff_ne.mpr c5
            by_cases c8 : ((rd_T34 l0 x6_1).f2) > a1
            · rw [if_pos c8] at H
              have c8b0 : decide (a1 < ((rd_T34 l0 x6_1).f2)) = true := decide_eq_true c8
              clear c8
              by_cases c9 : x5_1.length < 2932031007402
              · rw [if_pos c9] at H
                have LMc9 := Aside0.mk c9
                clear c9
                obtain ⟨y219, hy219⟩ : ∃ y_ : List (S34), y_ = (x5_1 ++ [(⟨(⟨(rd_T34 l0 x6_1).f0.f0, (rd_T34 l0 x6_1).f0.f1⟩ : S31), (rd_T34 l0 x6_1).f1, (rd_T34 l0 x6_1).f2⟩ : S34)]) := ⟨_, rfl⟩
                replace H : (hayloftref10_Purge.l0 k1 l0 a1 y219 (wrap64 (x6_1 + 1))) = some r := by first | (rw [hy219]; with_reducible exact H) | (have H2_ := (Option.bind_some _ _).symm.trans H; rw [hy219]; with_reducible exact H2_) | (have H2_ := (Option.bind_some _ _).symm.trans H; with_reducible exact H2_) | with_reducible exact H | (rw [hy219]; exact H) | exact H
                have Ny219 := Aside0.mk hy219
                clear hy219
                have H' := Aside0.mk H
                clear H
                have p212 : 0 ≤ (x6_1 : Int) := of_decide_eq_true (by first | (with_reducible assumption) | assumption)
                have q212 : x6_1 < (l0.length : Int) := of_decide_eq_true (by first | (with_reducible assumption) | assumption)
                obtain ⟨ad212, A212_2, c212_2, e212, hx212_0, hx212_1, hx212_2, hx212_3, hl212_2, hi212_2⟩ := at_T34 (Kd.V_reads' HO_0.out).2.2 x6_1 p212 q212
                cases e212
                obtain ⟨ce212, hce212, hMe212, hcc212⟩ := Kd.V_get HO_0.out z34 x6_1 p212 (by first | exact q212 | exact of_decide_eq_true (by first | (with_reducible assumption) | assumption) | (have e_ := (Kd.V_reads' HO_0.out).1; omega))
                obtain ⟨ua212_2, uc212_2, rfl, ul212_2, ge212_2⟩ := k34_openF hMe212
                have hv212_2 := hcc212 2 _ rfl
                rw [add_field _ _ 2 (by omega)] at hv212_2
                replace hv212_2 := Option.some.inj (hv212_2.symm.trans hx212_2)
                injection hv212_2 with hva_ hvn_ hvc_
                rw [hva_] at ge212_2
                rw [hvc_] at ul212_2
                have HL212_2 := Aside0.mk (show Kd.V k36 36 _ w.heap.size _ _ ((rd_T34 l0 x6_1).f1) from Kd.V_mk ul212_2 ge212_2)
                clear hva_ hvn_ hvc_ ge212_2 ul212_2
                clear hcc212 hce212
                have HR212_2 := Aside0.mk hi212_2
                have HC212_2 := Aside0.mk hl212_2
                clear hi212_2 hl212_2
                replace p212 := eq_true p212
                replace q212 := eq_true q212
                have p217 : 0 ≤ (x6_1 : Int) := of_decide_eq_true (by first | (with_reducible assumption) | assumption)
                have q217 : x6_1 < (l0.length : Int) := of_decide_eq_true (by first | (with_reducible assumption) | assumption)
                obtain ⟨ad217, A217_2, c217_2, e217, hx217_0, hx217_1, hx217_2, hx217_3, hl217_2, hi217_2⟩ := at_T34 (Kd.V_reads' HO_0.out).2.2 x6_1 p217 q217
                obtain rfl : ad212 = ad217 := (by injection e217)
                obtain ⟨ce217, hce217, hMe217, hcc217⟩ := Kd.V_get HO_0.out z34 x6_1 p217 (by first | exact q217 | exact of_decide_eq_true (by first | (with_reducible assumption) | assumption) | (have e_ := (Kd.V_reads' HO_0.out).1; omega))
                obtain ⟨ua217_2, uc217_2, rfl, ul217_2, ge217_2⟩ := k34_openF hMe217
                have hv217_2 := hcc217 2 _ rfl
                rw [add_field _ _ 2 (by omega)] at hv217_2
                replace hv217_2 := Option.some.inj (hv217_2.symm.trans hx217_2)
                injection hv217_2 with hva_ hvn_ hvc_
                rw [hva_] at ge217_2
                rw [hvc_] at ul217_2
                have HL217_2 := Aside0.mk (show Kd.V k36 36 _ w.heap.size _ _ ((rd_T34 l0 x6_1).f1) from Kd.V_mk ul217_2 ge217_2)
                clear hva_ hvn_ hvc_ ge217_2 ul217_2
                clear hcc217 hce217
                have HR217_2 := Aside0.mk hi217_2
                have HC217_2 := Aside0.mk hl217_2
                clear hi217_2 hl217_2
                replace p217 := eq_true p217
                replace q217 := eq_true q217
                have ea_ := Option.some.inj (hx212_2.symm.trans hx217_2)
                injection ea_ with ea_ en_ ec_
                subst ea_
                subst ec_
                clear en_
                have p218 : 0 ≤ (x6_1 : Int) := of_decide_eq_true (by first | (with_reducible assumption) | assumption)
                have q218 : x6_1 < (l0.length : Int) := of_decide_eq_true (by first | (with_reducible assumption) | assumption)
                obtain ⟨ad218, A218_2, c218_2, e218, hx218_0, hx218_1, hx218_2, hx218_3, hl218_2, hi218_2⟩ := at_T34 (Kd.V_reads' HO_0.out).2.2 x6_1 p218 q218
                obtain rfl : ad212 = ad218 := (by injection e218)
                obtain ⟨ce218, hce218, hMe218, hcc218⟩ := Kd.V_get HO_0.out z34 x6_1 p218 (by first | exact q218 | exact of_decide_eq_true (by first | (with_reducible assumption) | assumption) | (have e_ := (Kd.V_reads' HO_0.out).1; omega))
                obtain ⟨ua218_2, uc218_2, rfl, ul218_2, ge218_2⟩ := k34_openF hMe218
                have hv218_2 := hcc218 2 _ rfl
                rw [add_field _ _ 2 (by omega)] at hv218_2
                replace hv218_2 := Option.some.inj (hv218_2.symm.trans hx218_2)
                injection hv218_2 with hva_ hvn_ hvc_
                rw [hva_] at ge218_2
                rw [hvc_] at ul218_2
                have HL218_2 := Aside0.mk (show Kd.V k36 36 _ w.heap.size _ _ ((rd_T34 l0 x6_1).f1) from Kd.V_mk ul218_2 ge218_2)
                clear hva_ hvn_ hvc_ ge218_2 ul218_2
                clear hcc218 hce218
                have HR218_2 := Aside0.mk hi218_2
                have HC218_2 := Aside0.mk hl218_2
                clear hi218_2 hl218_2
                replace p218 := eq_true p218
                replace q218 := eq_true q218
                have ea_ := Option.some.inj (hx212_2.symm.trans hx218_2)
                injection ea_ with ea_ en_ ec_
                subst ea_
                subst ec_
                clear en_
                go_wp2_with (first | ((with_reducible refine gate_builtin (b := .append) (xs := #[.tmp 28, .tmp 33]) rfl ?_); at_builtin; refine Kd.N_append k34 (w0 := w) w.heap.size rfl (.tmp 28) (.tmp 33) 22 34 (.agg #[(.int .u64 0), (.int .u32 0), (.slice none 0 0), (.int .u64 0)]) 48 rfl Try.underlying22 info34 rfl (by decide) (by omega) u5 x5_1 (⟨(⟨(rd_T34 l0 x6_1).f0.f0, (rd_T34 l0 x6_1).f0.f1⟩ : S31), (rd_T34 l0 x6_1).f1, (rd_T34 l0 x6_1).f2⟩ : S34) [.int .u64 ((rd_T34 l0 x6_1).f0.f0), .int .u32 ((rd_T34 l0 x6_1).f0.f1), .slice A212_2 ((rd_T34 l0 x6_1).f1).length c212_2, .int .u64 ((rd_T34 l0 x6_1).f2)] (fun k_ => (P0_ k_ ∨ w.heap.size ≤ k_)) (fun k_ => ((fun k_ => (P0_ k_ ∨ w.heap.size ≤ k_))) k_ ∧ some k_ ≠ (u5 : Value).ownBlock) rfl rfl ?aP (fun _ hk => hk) ?aF ?aO ?aB ?aS ?aL ?_; (case aP => exact (k34_mkF _ _ (⟨(⟨(rd_T34 l0 x6_1).f0.f0, (rd_T34 l0 x6_1).f0.f1⟩ : S31), (rd_T34 l0 x6_1).f1, (rd_T34 l0 x6_1).f2⟩ : S34) (Kd.V_reads' (Kd.V_mono (ok' := (fun k_ => ((fun k_ => (P0_ k_ ∨ w.heap.size ≤ k_))) k_ ∧ some k_ ≠ (u5 : Value).ownBlock)) (HL218_2.out) (fun k_ hk => ⟨hk.1, hk.2⟩))).2.1 (Kd.V_F (Kd.V_mono (ok' := (fun k_ => ((fun k_ => (P0_ k_ ∨ w.heap.size ≤ k_))) k_ ∧ some k_ ≠ (u5 : Value).ownBlock)) (HL218_2.out) (fun k_ hk => ⟨hk.1, hk.2⟩))))); (case aB => exact (by repeat (first | (with_reducible first | exact HB.out | apply below_alloc | apply pw_below_drewN | apply below_drew1) | exact HB.out))); (case aF => exact (fun k_ hk => (.inr (Nat.le_trans (below_size (by repeat (first | (with_reducible first | exact HB.out | apply below_alloc | apply pw_below_drewN | apply below_drew1) | exact HB.out))) hk)))); (case aO => exact (by (with_reducible repeat (first | apply Kd.N_alloc | apply Kd.N_drewN | apply Kd.N_drew)); exact HO_5.out)); (case aS => exact (below_size (by repeat (first | (with_reducible first | exact HB.out | apply below_alloc | apply pw_below_drewN | apply below_drew1) | exact HB.out)))); (case aL => have := LMc9.out; omega); intro v220 w10 ho hb hg hat; rw [← Ny219.out] at ho; have n0_ := Aside0.mk (Kd.V_afterv (ok := (fun k_ => (P0_ k_ ∨ w.heap.size ≤ k_))) (by (with_reducible repeat (first | apply Kd.V_alloc | apply Kd.V_drewN | apply Kd.V_drew)); exact HO_0.out) hg hat); have n1_ := Aside0.mk (Kd.V_afterv (ok := (fun k_ => (P0_ k_ ∨ w.heap.size ≤ k_))) (by (with_reducible repeat (first | apply Kd.V_alloc | apply Kd.V_drewN | apply Kd.V_drew)); exact HL212_2.out) hg hat); have n2_ := Aside0.mk (Kd.V_afterv (ok := (fun k_ => (P0_ k_ ∨ w.heap.size ≤ k_))) (by (with_reducible repeat (first | apply Kd.V_alloc | apply Kd.V_drewN | apply Kd.V_drew)); exact HL217_2.out) hg hat); have n3_ := Aside0.mk (Kd.V_afterv (ok := (fun k_ => (P0_ k_ ∨ w.heap.size ≤ k_))) (by (with_reducible repeat (first | apply Kd.V_alloc | apply Kd.V_drewN | apply Kd.V_drew)); exact HL218_2.out) hg hat); have n4_ := Aside0.mk (hb); have n5_ := Aside0.mk (ho); clear HO_0; clear HL212_2; clear HL217_2; clear HL218_2; clear HB; clear HO_5; have HO_0 := n0_; have HL212_2 := n1_; have HL217_2 := n2_; have HL218_2 := n3_; have HB := n4_; have HO221 := n5_; clear n0_ n1_ n2_ n3_ n4_ n5_; clear ho hb hg hat))
                go_roundg k1
                case measure => have := HK1.out; omega
                case rel => exact ⟨(y219), (wrap64 (x6_1 + 1)), (by first | rfl | (simp; done) | (simp [*]; done)), H', ⟨by have := HK1.out; omega⟩, ⟨by (with_reducible repeat (first | apply Kd.V_alloc | apply Kd.V_drewN | apply Kd.V_drew)); exact HO_0.out⟩, ⟨by (with_reducible repeat (first | apply Kd.N_alloc | apply Kd.N_drewN | apply Kd.N_drew)); exact HO221.out⟩, ⟨by repeat (first | (with_reducible first | exact HB.out | apply below_alloc | apply pw_below_drewN | apply below_drew1) | exact HB.out)⟩⟩
              · rw [if_neg c9] at H
                exact absurd H (by simp)
            · rw [if_neg c8] at H
              have c8b0 : decide (a1 < ((rd_T34 l0 x6_1).f2)) = false := decide_eq_false c8
              clear c8
              have H' := Aside0.mk H
              clear H
              have p212 : 0 ≤ (x6_1 : Int) := of_decide_eq_true (by first | (with_reducible assumption) | assumption)
              have q212 : x6_1 < (l0.length : Int) := of_decide_eq_true (by first | (with_reducible assumption) | assumption)
              obtain ⟨ad212, A212_2, c212_2, e212, hx212_0, hx212_1, hx212_2, hx212_3, hl212_2, hi212_2⟩ := at_T34 (Kd.V_reads' HO_0.out).2.2 x6_1 p212 q212
              cases e212
              obtain ⟨ce212, hce212, hMe212, hcc212⟩ := Kd.V_get HO_0.out z34 x6_1 p212 (by first | exact q212 | exact of_decide_eq_true (by first | (with_reducible assumption) | assumption) | (have e_ := (Kd.V_reads' HO_0.out).1; omega))
              obtain ⟨ua212_2, uc212_2, rfl, ul212_2, ge212_2⟩ := k34_openF hMe212
              have hv212_2 := hcc212 2 _ rfl
              rw [add_field _ _ 2 (by omega)] at hv212_2
              replace hv212_2 := Option.some.inj (hv212_2.symm.trans hx212_2)
              injection hv212_2 with hva_ hvn_ hvc_
              rw [hva_] at ge212_2
              rw [hvc_] at ul212_2
              have HL212_2 := Aside0.mk (show Kd.V k36 36 _ w.heap.size _ _ ((rd_T34 l0 x6_1).f1) from Kd.V_mk ul212_2 ge212_2)
              clear hva_ hvn_ hvc_ ge212_2 ul212_2
              clear hcc212 hce212
              have HR212_2 := Aside0.mk hi212_2
              have HC212_2 := Aside0.mk hl212_2
              clear hi212_2 hl212_2
              replace p212 := eq_true p212
              replace q212 := eq_true q212
              have p217 : 0 ≤ (x6_1 : Int) := of_decide_eq_true (by first | (with_reducible assumption) | assumption)
              have q217 : x6_1 < (l0.length : Int) := of_decide_eq_true (by first | (with_reducible assumption) | assumption)
              obtain ⟨ad217, A217_2, c217_2, e217, hx217_0, hx217_1, hx217_2, hx217_3, hl217_2, hi217_2⟩ := at_T34 (Kd.V_reads' HO_0.out).2.2 x6_1 p217 q217
              obtain rfl : ad212 = ad217 := (by injection e217)
              obtain ⟨ce217, hce217, hMe217, hcc217⟩ := Kd.V_get HO_0.out z34 x6_1 p217 (by first | exact q217 | exact of_decide_eq_true (by first | (with_reducible assumption) | assumption) | (have e_ := (Kd.V_reads' HO_0.out).1; omega))
              obtain ⟨ua217_2, uc217_2, rfl, ul217_2, ge217_2⟩ := k34_openF hMe217
              have hv217_2 := hcc217 2 _ rfl
              rw [add_field _ _ 2 (by omega)] at hv217_2
              replace hv217_2 := Option.some.inj (hv217_2.symm.trans hx217_2)
              injection hv217_2 with hva_ hvn_ hvc_
              rw [hva_] at ge217_2
              rw [hvc_] at ul217_2
              have HL217_2 := Aside0.mk (show Kd.V k36 36 _ w.heap.size _ _ ((rd_T34 l0 x6_1).f1) from Kd.V_mk ul217_2 ge217_2)
              clear hva_ hvn_ hvc_ ge217_2 ul217_2
              clear hcc217 hce217
              have HR217_2 := Aside0.mk hi217_2
              have HC217_2 := Aside0.mk hl217_2
              clear hi217_2 hl217_2
              replace p217 := eq_true p217
              replace q217 := eq_true q217
              have ea_ := Option.some.inj (hx212_2.symm.trans hx217_2)
              injection ea_ with ea_ en_ ec_
              subst ea_
              subst ec_
              clear en_
              go_wp2
              go_roundg k1
              case measure => have := HK1.out; omega
              case rel => exact ⟨(x5_1), (wrap64 (x6_1 + 1)), (by first | rfl | (simp; done) | (simp [*]; done)), H', ⟨by have := HK1.out; omega⟩, ⟨by (with_reducible repeat (first | apply Kd.V_alloc | apply Kd.V_drewN | apply Kd.V_drew)); exact HO_0.out⟩, ⟨by (with_reducible repeat (first | apply Kd.N_alloc | apply Kd.N_drewN | apply Kd.N_drew)); exact HO_5.out⟩, ⟨by repeat (first | (with_reducible first | exact HB.out | apply below_alloc | apply pw_below_drewN | apply below_drew1) | exact HB.out)⟩⟩
        · rw [if_neg c4] at H
          exact absurd H (by simp)
      · rw [if_neg c3] at H
        have c3b0 : decide (x6_1 < (l0.length : Int)) = false := decide_eq_false c3
        clear c3
        obtain rfl := Option.some.inj H
        go_wp2
        go_ret
        exact ⟨_, by first | rfl | (simp [errW_none, errW_some] <;> rfl) | (simp [*, errW_none, errW_some] <;> rfl), by (with_reducible repeat (first | apply Kd.N_alloc | apply Kd.N_drewN | apply Kd.N_drew)); exact HO_5.out, by repeat (first | (with_reducible first | exact HB.out | apply below_alloc | apply pw_below_drewN | apply below_drew1) | exact HB.out)⟩

-- NOT PRINTED: function 6 (hayloftlaw18_RecoverPurged)

end Go.Proofs.Ytfepfpcilmaojaa.QV
