/- The parts QVx7, SortP, QVx8, RejP, RoundW, Open, Stab, Stab2, Stab3, Stab4, Stab5, Stab6, Stab7, RoundX of this proof, one behind the other. -/
import Derived.Test.YtghblnldokpceaaZ2
import Derived.OrdersHeld
import Derived.OrdersIn
import Derived.TacticsIn
import Derived.RangeFuncCalls
import Derived.Deep.RegionHeld
import Derived.Test.YtghblnldokpceaaRows
import Derived.ProofKit
import Derived.OpenShut
import Derived.SizedLaws
import Derived.Shelf.RegionOpenPlain
import Derived.Below
/- Printed by mp.py (this session's) with the kit's print: plain functions with the answers of the Go code, and the proofs of it. -/
namespace Go.Proofs.Ytghblnldokpceaa.QV
open Go.RowKit Go.Proofs.YtghblnldokpceaaW.PrintWords Go.Proofs.YtghblnldokpceaaW.PrintLast Go.Proofs.YtghblnldokpceaaW.PrintMore
attribute [local go_sem] max2_int min2_int max_two min_two max_three min_three max_four min_four   -- for this text's walks alone
set_option linter.unusedVariables false
set_option linter.unusedSimpArgs false

/-! ### hayloftref15_Sort: function 25 -/
mutual
def hayloftref15_Sort.l0 : Nat → List (List (S42)) → List (S77) → List (List (S42)) → Int → Option ((List (List (S42))))
  | 0, _, _, _, _ => none
  | k + 1, x0, x1, x5, x6 => if x6 < (x0.length : Int) then (hayloftref15_Sort.l1 k x0 x1 x5 x6 (x5.length : Int)) else (some x5)
def hayloftref15_Sort.l1 : Nat → List (List (S42)) → List (S77) → List (List (S42)) → Int → Int → Option ((List (List (S42))))
  | 0, _, _, _, _, _ => none
  | k + 1, x0, x1, x5, x6, x7 => if x7 > 0 then (if 0 ≤ x6 then (if x6 < (x0.length : Int) then (if 0 ≤ (wrap64 (x7 - 1)) then (if (wrap64 (x7 - 1)) < (x5.length : Int) then ((hayloftref15_ahead.f k (rd_L4 x0 x6) (rd_L4 x5 (wrap64 (x7 - 1))) x1).bind fun t212 => (if t212 = true then (hayloftref15_Sort.l1 k x0 x1 x5 x6 (wrap64 (x7 - 1))) else (if 0 ≤ x7 then (if x7 ≤ (x5.length : Int) then ((some (x5.take (x7 : Int).toNat : List (List (S42)))).bind fun y213 => (if ([] : List (List (S42))).length + y213.length < 5864062014805 then ((some (([] : List (List (S42))) ++ y213 : List (List (S42)))).bind fun y218 => (if y218.length < 5864062014805 then ((some (y218 ++ [rd_L4 x0 x6] : List (List (S42)))).bind fun y222 => ((some (x5.drop (x7 : Int).toNat : List (List (S42)))).bind fun y225 => (if y222.length + y225.length < 5864062014805 then (hayloftref15_Sort.l0 k x0 x1 (y222 ++ y225) (wrap64 (x6 + 1))) else (none)))) else (none))) else (none))) else (none)) else (none)))) else (none)) else (none)) else (none)) else (none)) else (if 0 ≤ x7 then (if x7 ≤ (x5.length : Int) then ((some (x5.take (x7 : Int).toNat : List (List (S42)))).bind fun y233 => (if ([] : List (List (S42))).length + y233.length < 5864062014805 then ((some (([] : List (List (S42))) ++ y233 : List (List (S42)))).bind fun y238 => (if 0 ≤ x6 then (if x6 < (x0.length : Int) then (if y238.length < 5864062014805 then ((some (y238 ++ [rd_L4 x0 x6] : List (List (S42)))).bind fun y242 => ((some (x5.drop (x7 : Int).toNat : List (List (S42)))).bind fun y245 => (if y242.length + y245.length < 5864062014805 then (hayloftref15_Sort.l0 k x0 x1 (y242 ++ y245) (wrap64 (x6 + 1))) else (none)))) else (none)) else (none)) else (none))) else (none))) else (none)) else (none))
end
def hayloftref15_Sort.f (k : Nat) (l0 : List (List (S42))) (l1 : List (S77)) : Option ((List (List (S42)))) := hayloftref15_Sort.l0 k l0 l1 ([] : List (List (S42))) 0
theorem hayloftref15_Sort.mono_l : ∀ k, (∀ y0 y1 y2 y3, LeO (hayloftref15_Sort.l0 k y0 y1 y2 y3) (hayloftref15_Sort.l0 (k + 1) y0 y1 y2 y3)) ∧ (∀ y0 y1 y2 y3 y4, LeO (hayloftref15_Sort.l1 k y0 y1 y2 y3 y4) (hayloftref15_Sort.l1 (k + 1) y0 y1 y2 y3 y4))
  | 0 => ⟨fun _ _ _ _ r h => by simp [hayloftref15_Sort.l0] at h, fun _ _ _ _ _ r h => by simp [hayloftref15_Sort.l1] at h⟩
  | k + 1 => by
    obtain ⟨ih0, ih1⟩ := hayloftref15_Sort.mono_l k
    refine ⟨?_, ?_⟩
    · intro y0 y1 y2 y3
      unfold hayloftref15_Sort.l0
      repeat' first
      | (with_reducible exact ih0 _ _ _ _)
      | (with_reducible exact ih1 _ _ _ _ _)
      | (with_reducible exact hayloftref15_ahead.mono _ _ _ _)
      | (with_reducible exact LeO.refl _)
      | (with_reducible exact LeO.none _)
      | (with_reducible refine LeO.ite ?_ ?_)
      | (with_reducible refine LeO.bind ?_ (fun _ => ?_))
      | exact ih0 _ _ _ _
      | exact ih1 _ _ _ _ _
      | exact hayloftref15_ahead.mono _ _ _ _
      | exact LeO.none _
      | refine LeO.ite ?_ ?_
      | refine LeO.bind ?_ (fun _ => ?_)
    · intro y0 y1 y2 y3 y4
      unfold hayloftref15_Sort.l1
      repeat' first
      | (with_reducible exact ih0 _ _ _ _)
      | (with_reducible exact ih1 _ _ _ _ _)
      | (with_reducible exact hayloftref15_ahead.mono _ _ _ _)
      | (with_reducible exact LeO.refl _)
      | (with_reducible exact LeO.none _)
      | (with_reducible refine LeO.ite ?_ ?_)
      | (with_reducible refine LeO.bind ?_ (fun _ => ?_))
      | exact ih0 _ _ _ _
      | exact ih1 _ _ _ _ _
      | exact hayloftref15_ahead.mono _ _ _ _
      | exact LeO.none _
      | refine LeO.ite ?_ ?_
      | refine LeO.bind ?_ (fun _ => ?_)
theorem hayloftref15_Sort.mono : ∀ a0 a1 k, LeO (hayloftref15_Sort.f k a0 a1) (hayloftref15_Sort.f (k + 1) a0 a1) := by
  intro a0 a1 k
  obtain ⟨ih0, ih1⟩ := hayloftref15_Sort.mono_l k
  unfold hayloftref15_Sort.f
  repeat' first
      | (with_reducible exact ih0 _ _ _ _)
      | (with_reducible exact ih1 _ _ _ _ _)
      | (with_reducible exact hayloftref15_ahead.mono _ _ _ _)
      | (with_reducible exact LeO.refl _)
      | (with_reducible exact LeO.none _)
      | (with_reducible refine LeO.ite ?_ ?_)
      | (with_reducible refine LeO.bind ?_ (fun _ => ?_))
      | exact ih0 _ _ _ _
      | exact ih1 _ _ _ _ _
      | exact hayloftref15_ahead.mono _ _ _ _
      | exact LeO.none _
      | refine LeO.ite ?_ ?_
      | refine LeO.bind ?_ (fun _ => ?_)
def hayloftref15_Sort.T7 : Bool × List (List Nat × List Nat) := (true, [([], []), ([], []), ([0, 1], [0, 1]), ([2], [2]), ([], []), ([], []), ([5], [5]), ([4, 6], [4, 6]), ([7], [7]), ([], []), ([3, 8, 9], [3, 8, 9]), ([10, 10, 0, 1, 2, 3, 4, 5, 6, 7, 8, 9, 10], [10])])
def hayloftref15_Sort.B7 : List Nat := [0, 0, 3, 7, 0, 0, 32, 112, 240, 0, 1023, 2047]
theorem hayloftref15_Sort.tab7 : rtab .any (opsOf Try.f25 7) = hayloftref15_Sort.T7 := by kernel_rfl
theorem hayloftref15_Sort.bits7 : waitsOk hayloftref15_Sort.T7.2 hayloftref15_Sort.B7 = true := by kernel_rfl
set_option maxHeartbeats 8000000 in
set_option maxRecDepth 100000 in
theorem hayloftref15_Sort.calls (k : Nat) (P0_ : Nat → Prop) (A0 : Option Addr) (c0 : Nat) (l0 : List (List (S42))) (A1 : Option Addr) (c1 : Nat) (l1 : List (S77)) (r : List (List (S42))) (w : World) (hs0 : Kd.V (Kd.slice 42 k42) 31 w w.heap.size (fun k_ => P0_ k_) (.slice A0 l0.length c0) l0) (hr1 : Kd.C k77 w A1 l1.length l1) (hc1 : l1.length ≤ c1) (h : hayloftref15_Sort.f k l0 l1 = some r) :
    Calls Try.prog 25 #[.slice A0 l0.length c0, .slice A1 l1.length c1] w fun e w' => ∃ v0_ : Value, e = .returned (v0_) ∧ Kd.N (Kd.slice 42 k42) 31 w' w.heap.size (fun k_ => (P0_ k_ ∨ w.heap.size ≤ k_)) v0_ r ∧ Below w.heap.size w w' := by
  have HO0 := Aside0.mk (show Kd.V (Kd.slice 42 k42) 31 w w.heap.size (fun k_ => (P0_ k_ ∨ w.heap.size ≤ k_)) (.slice A0 l0.length c0) l0 from Kd.V_mono hs0 (fun k_ hk => .inl hk))
  have HR1 := Aside0.mk hr1
  have HC1 := Aside0.mk hc1
  clear hr1 hc1
  have HB := Aside0.mk (Below.refl w.heap.size w)
  have H : (hayloftref15_Sort.l0 k l0 l1 ([] : List (List (S42))) 0) = some r := h
  clear h
  have H' := Aside0.mk H
  clear H
  go_enter Try.func25, Try.ntmps25
  go_wp2
  go_loopg [5, 6] k (fun kq v5 v6 w' => ∃ (x5_1 : List (List (S42))) (x6_1 : Int), v6 = .int .i64 x6_1 ∧ Aside0 (hayloftref15_Sort.l0 kq l0 l1 x5_1 x6_1 = some r) ∧ Aside0 (kq ≤ k) ∧ Aside0 (Kd.V (Kd.slice 42 k42) 31 w' w.heap.size (fun k_ => (P0_ k_ ∨ w.heap.size ≤ k_) ∧ some k_ ≠ (v5 : Value).ownBlock) (.slice A0 l0.length c0) l0) ∧ Aside0 (Kd.N (Kd.slice 42 k42) 31 w' w.heap.size (fun k_ => (P0_ k_ ∨ w.heap.size ≤ k_)) v5 x5_1) ∧ Aside0 (Below w.heap.size w w'))
  case atStart => exact ⟨(([] : List (List (S42)))), (0), (by first | rfl | (simp; done) | (simp [*]; done)), H', ⟨Nat.le_refl _⟩, ⟨by (with_reducible repeat (first | apply Kd.V_alloc | apply Kd.V_drewN | apply Kd.V_drew)); exact Kd.V_mono HO0.out (fun _ hk => ⟨hk, (by simp [Value.ownBlock])⟩)⟩, ⟨by first | exact Kd.S_nil _ _ _ _ _ | exact Kd.N_nil _ _ _ _ _ | exact Kd.V_nil _ _ _ _ _ | exact Kd.Q_nil _ _ _ _ _ | exact Kd.R_nil _ _ _ _ _⟩, ⟨by repeat (first | (with_reducible first | exact HB.out | apply below_alloc | apply pw_below_drewN | apply below_drew1) | exact HB.out)⟩⟩
  case round =>
    clear H'
    try clear c1
    try clear c2
    try clear p2
    obtain ⟨x5_1, x6_1, rfl, HA, HK1, HO_0, HO_5, HB⟩ := hrel
    cases gk with
    | zero => exact absurd HA.out (by simp [hayloftref15_Sort.l0])
    | succ k1 =>
      have H := HA.out
      clear HA
      simp only [hayloftref15_Sort.l0] at H
      by_cases c3 : x6_1 < (l0.length : Int)
      · rw [if_pos c3] at H
        have c3b0 : decide (x6_1 < (l0.length : Int)) = true := decide_eq_true c3
        clear c3
        have H' := Aside0.mk H
        clear H
        obtain ⟨Ao4, co4, eo4⟩ := Kd.N_slice HO_5.out
        subst eo4
        go_wp2
        go_loopg [7] k1 (fun kq v7 w' => ∃ (x7_2 : Int), v7 = .int .i64 x7_2 ∧ Aside0 (hayloftref15_Sort.l1 kq l0 l1 x5_1 x6_1 x7_2 = some r) ∧ Aside0 (kq ≤ k1) ∧ Aside0 (Kd.V (Kd.slice 42 k42) 31 w' w.heap.size (fun k_ => (P0_ k_ ∨ w.heap.size ≤ k_) ∧ some k_ ≠ ((.slice Ao4 x5_1.length co4) : Value).ownBlock) (.slice A0 l0.length c0) l0) ∧ Aside0 (Kd.N (Kd.slice 42 k42) 31 w' w.heap.size (fun k_ => (P0_ k_ ∨ w.heap.size ≤ k_)) (.slice Ao4 x5_1.length co4) x5_1) ∧ Aside0 (Below w.heap.size w w'))
        case atStart => exact ⟨((x5_1.length : Int)), (by first | rfl | (simp; done) | (simp [*]; done)), H', ⟨Nat.le_refl _⟩, ⟨by (with_reducible repeat (first | apply Kd.V_alloc | apply Kd.V_drewN | apply Kd.V_drew)); exact HO_0.out⟩, ⟨by (with_reducible repeat (first | apply Kd.N_alloc | apply Kd.N_drewN | apply Kd.N_drew)); exact HO_5.out⟩, ⟨by repeat (first | (with_reducible first | exact HB.out | apply below_alloc | apply pw_below_drewN | apply below_drew1) | exact HB.out)⟩⟩
        case round =>
          clear H'
          try clear c1
          try clear c2
          try clear p2
          try clear c3
          try clear c3b0
          try clear p2
          obtain ⟨x7_2, rfl, HA, HK2, HO_0, HO_5, HB⟩ := hrel
          cases gk with
          | zero => exact absurd HA.out (by simp [hayloftref15_Sort.l1])
          | succ k2 =>
            have H := HA.out
            clear HA
            simp only [hayloftref15_Sort.l1] at H
            by_cases c5 : x7_2 > 0
            · rw [if_pos c5] at H
              have c5b0 : decide (0 < x7_2) = true := decide_eq_true c5
              clear c5
              by_cases c6 : 0 ≤ x6_1
              · rw [if_pos c6] at H
                have c6b0 : decide (0 ≤ x6_1) = true := decide_eq_true c6
                clear c6
                by_cases c7 : x6_1 < (l0.length : Int)
                · rw [if_pos c7] at H
                  have c7b0 : decide (x6_1 < (l0.length : Int)) = true := decide_eq_true c7
                  clear c7
                  obtain ⟨ji8, hji8⟩ : ∃ j_ : Int, (wrap64 (x7_2 - 1)) = j_ := ⟨_, rfl⟩
                  replace H : (if 0 ≤ (ji8) then (if (ji8) < (x5_1.length : Int) then ((hayloftref15_ahead.f k2 (rd_L4 l0 x6_1) (rd_L4 x5_1 (ji8)) l1).bind fun t212 => (if t212 = true then (hayloftref15_Sort.l1 k2 l0 l1 x5_1 x6_1 ji8) else (if 0 ≤ x7_2 then (if x7_2 ≤ (x5_1.length : Int) then ((some (x5_1.take (x7_2 : Int).toNat : List (List (S42)))).bind fun y213 => (if ([] : List (List (S42))).length + y213.length < 5864062014805 then ((some (([] : List (List (S42))) ++ y213 : List (List (S42)))).bind fun y218 => (if y218.length < 5864062014805 then ((some (y218 ++ [rd_L4 l0 x6_1] : List (List (S42)))).bind fun y222 => ((some (x5_1.drop (x7_2 : Int).toNat : List (List (S42)))).bind fun y225 => (if y222.length + y225.length < 5864062014805 then (hayloftref15_Sort.l0 k2 l0 l1 (y222 ++ y225) (wrap64 (x6_1 + 1))) else (none)))) else (none))) else (none))) else (none)) else (none)))) else (none)) else (none)) = some r := by first | (rw [hji8] at H; exact H) | (simp only [hji8] at H ⊢; exact H)
                  have hji8w : (IntKind.i64.wrap (x7_2 - 1)) = ji8 := (i64_w _).trans hji8
                  by_cases c9 : 0 ≤ (ji8)
                  · rw [if_pos c9] at H
                    have c9b0 : decide (0 ≤ (ji8)) = true := decide_eq_true c9
                    clear c9
                    by_cases c10 : (ji8) < (x5_1.length : Int)
                    · rw [if_pos c10] at H
                      have c10b0 : decide ((ji8) < (x5_1.length : Int)) = true := decide_eq_true c10
                      clear c10
                      replace H := Option.bind_eq_some_iff.mp H
                      obtain ⟨t212, A110, H⟩ := H
                      replace H : (if t212 = true then (hayloftref15_Sort.l1 k2 l0 l1 x5_1 x6_1 ji8) else (if 0 ≤ x7_2 then (if x7_2 ≤ (x5_1.length : Int) then ((some (x5_1.take (x7_2 : Int).toNat : List (List (S42)))).bind fun y213 => (if ([] : List (List (S42))).length + y213.length < 5864062014805 then ((some (([] : List (List (S42))) ++ y213 : List (List (S42)))).bind fun y218 => (if y218.length < 5864062014805 then ((some (y218 ++ [rd_L4 l0 x6_1] : List (List (S42)))).bind fun y222 => ((some (x5_1.drop (x7_2 : Int).toNat : List (List (S42)))).bind fun y225 => (if y222.length + y225.length < 5864062014805 then (hayloftref15_Sort.l0 k2 l0 l1 (y222 ++ y225) (wrap64 (x6_1 + 1))) else (none)))) else (none))) else (none))) else (none)) else (none))) = some r := H
                      have A11 := Aside0.mk A110
                      clear A110
                      by_cases c12 : t212 = true
                      · subst c12
                        have H1 : (hayloftref15_Sort.l1 k2 l0 l1 x5_1 x6_1 ji8) = some r := by rw [if_pos rfl] at H; exact H
                        clear H
                        have H := H1
                        clear H1
                        have H' := Aside0.mk H
                        clear H
                        try go_wp2
                        have n0_ := Aside0.mk (Kd.V_drew HO_0.out)
                        have n1_ := Aside0.mk (Kd.N_drew HO_5.out)
                        have n2_ := Aside0.mk (below_drew1 HB.out)
                        clear HO_0
                        clear HO_5
                        clear HB
                        have HO_0 := n0_
                        have HO_5 := n1_
                        have HB := n2_
                        clear n0_ n1_ n2_
                        have p210 : 0 ≤ (x6_1 : Int) := of_decide_eq_true (by first | (with_reducible assumption) | assumption)
                        have q210 : x6_1 < (l0.length : Int) := of_decide_eq_true (by first | (with_reducible assumption) | assumption)
                        obtain ⟨ad210, A210_0, c210_0, e210, hx210_0, hl210_0, hi210_0⟩ := at_L4 (Kd.V_reads' HO_0.out).2.2 x6_1 p210 q210
                        cases e210
                        obtain ⟨ce210, hce210, hMe210, hcc210⟩ := Kd.V_get HO_0.out [] x6_1 p210 (by first | exact q210 | exact of_decide_eq_true (by first | (with_reducible assumption) | assumption) | (have e_ := (Kd.V_reads' HO_0.out).1; omega))
                        obtain ⟨ua210_0, uc210_0, rfl, ul210_0, ge210_0⟩ := Kd.FK_slice_open hMe210
                        have hv210_0 := hcc210 0 _ rfl
                        rw [Nat.add_zero, show ((Kd.slice 42 k42)).sz = 1 from rfl, Nat.mul_one] at hv210_0
                        replace hv210_0 := Option.some.inj (hv210_0.symm.trans hx210_0)
                        injection hv210_0 with hva_ hvn_ hvc_
                        rw [hva_] at ge210_0
                        rw [hvc_] at ul210_0
                        have HL210_0 := Aside0.mk (show Kd.V k42 42 _ w.heap.size _ _ (rd_L4 l0 x6_1) from Kd.V_mk ul210_0 ge210_0)
                        clear hva_ hvn_ hvc_ ge210_0 ul210_0
                        clear hcc210 hce210
                        have HR210_0 := Aside0.mk hi210_0
                        have HC210_0 := Aside0.mk hl210_0
                        clear hi210_0 hl210_0
                        replace p210 := eq_true p210
                        replace q210 := eq_true q210
                        have p211 : 0 ≤ ((ji8) : Int) := of_decide_eq_true (by first | (with_reducible assumption) | assumption)
                        have q211 : (ji8) < (x5_1.length : Int) := of_decide_eq_true (by first | (with_reducible assumption) | assumption)
                        obtain ⟨ad211, A211_0, c211_0, e211, hx211_0, hl211_0, hi211_0⟩ := at_L4 (Kd.N_reads' HO_5.out).2.2 (ji8) p211 q211
                        cases e211
                        obtain ⟨ce211, hce211, hMe211, hcc211⟩ := Kd.N_get HO_5.out [] (ji8) p211 (by first | exact q211 | exact of_decide_eq_true (by first | (with_reducible assumption) | assumption) | (have e_ := (Kd.N_reads' HO_5.out).1; omega))
                        obtain ⟨ua211_0, uc211_0, rfl, ul211_0, ge211_0⟩ := Kd.FK_slice_open hMe211
                        have hv211_0 := hcc211 0 _ rfl
                        rw [Nat.add_zero, show ((Kd.slice 42 k42)).sz = 1 from rfl, Nat.mul_one] at hv211_0
                        replace hv211_0 := Option.some.inj (hv211_0.symm.trans hx211_0)
                        injection hv211_0 with hva_ hvn_ hvc_
                        rw [hva_] at ge211_0
                        rw [hvc_] at ul211_0
                        have HL211_0 := Aside0.mk (show Kd.V k42 42 _ w.heap.size _ _ (rd_L4 x5_1 (ji8)) from Kd.V_mk ul211_0 ge211_0)
                        clear hva_ hvn_ hvc_ ge211_0 ul211_0
                        clear hcc211 hce211
                        have HR211_0 := Aside0.mk hi211_0
                        have HC211_0 := Aside0.mk hl211_0
                        clear hi211_0 hl211_0
                        replace p211 := eq_true p211
                        replace q211 := eq_true q211
                        refine start_ (n := 12) (S := fun w' => w'.cell? (ad210.add (x6_1).toNat) = some (.slice A210_0 (rd_L4 l0 x6_1).length c210_0) ∧ w'.cell? (ad211.add ((ji8)).toNat) = some (.slice A211_0 (rd_L4 x5_1 (ji8)).length c211_0)) (ds := []) #[false, false, false, false, false, false, false, false, false, false, false, false] (by kernel_rfl) rfl rfl ⟨hx210_0, hx211_0⟩ (fun hHeld => ?_); refine with_tabW hayloftref15_Sort.tab7 hayloftref15_Sort.bits7 (fun HT_ HW_ => ?_)
                        generalize wr.drew = w13 at HO_0 HO_5 HB HL210_0 HL211_0 HR210_0 HR211_0 hx210_0 hx211_0 hHeld ⊢
                        refine pure_ (i := 0) (N := some 20) (v := ?_) (a' := ?_) #[true, false, false, false, false, false, false, false, false, false, false, false] rfl rfl (any_of HT_.out (by kernel_rfl)) (fun _ _ _ h => h) (Or.inl ⟨by rfl, ?_⟩) ?_ ?_
                        rotate_left
                        · intro w'
                          go_simp
                          with_reducible rfl
                        rotate_left
                        · simp only [Act.put, List.setIfInBounds_toArray, List.set_cons_zero, List.set_cons_succ, i64_w, i32_w]
                          rfl
                        refine pure_ (i := 1) (N := some 21) (v := ?_) (a' := ?_) #[true, true, false, false, false, false, false, false, false, false, false, false] rfl rfl (any_of HT_.out (by kernel_rfl)) (fun _ _ _ h => h) (Or.inl ⟨by rfl, ?_⟩) ?_ ?_
                        rotate_left
                        · intro w'
                          go_simp
                          with_reducible rfl
                        rotate_left
                        · simp only [Act.put, List.setIfInBounds_toArray, List.set_cons_zero, List.set_cons_succ, i64_w, i32_w]
                          rfl
                        refine pure_ (i := 2) (N := some 22) (v := ?_) (a' := ?_) #[true, true, true, false, false, false, false, false, false, false, false, false] rfl rfl (any_of HT_.out (by kernel_rfl)) (fun _ _ _ h => h) (Or.inl ⟨by rfl, ?_⟩) ?_ ?_
                        rotate_left
                        · intro w'
                          go_simp
                          with_reducible rfl
                        rotate_left
                        · simp only [Act.put, List.setIfInBounds_toArray, List.set_cons_zero, List.set_cons_succ, i64_w, i32_w]
                          rfl
                        refine pure_ (i := 4) (N := some 24) (v := ?_) (a' := ?_) #[true, true, true, false, true, false, false, false, false, false, false, false] rfl rfl (any_of HT_.out (by kernel_rfl)) (fun _ _ _ h => h) (Or.inl ⟨by rfl, ?_⟩) ?_ ?_
                        rotate_left
                        · intro w'
                          go_simp
                          with_reducible rfl
                        rotate_left
                        · simp only [Act.put, List.setIfInBounds_toArray, List.set_cons_zero, List.set_cons_succ, i64_w, i32_w]
                          rfl
                        refine pure_ (i := 5) (N := some 25) (v := ?_) (a' := ?_) #[true, true, true, false, true, true, false, false, false, false, false, false] rfl rfl (any_of HT_.out (by kernel_rfl)) (fun _ _ _ h => h) (Or.inl ⟨by rfl, ?_⟩) ?_ ?_
                        rotate_left
                        · intro w'
                          go_simp
                          with_reducible rfl
                        rotate_left
                        · simp only [Act.put, List.setIfInBounds_toArray, List.set_cons_zero, List.set_cons_succ, i64_w, i32_w]
                          rfl
                        refine pure_ (i := 6) (N := some 26) (v := ?_) (a' := ?_) #[true, true, true, false, true, true, true, false, false, false, false, false] rfl rfl (any_of HT_.out (by kernel_rfl)) (fun _ _ _ h => h) (Or.inl ⟨by rfl, ?_⟩) ?_ ?_
                        rotate_left
                        · intro w'
                          go_simp
                          with_reducible rfl
                        rotate_left
                        · simp only [Act.put, List.setIfInBounds_toArray, List.set_cons_zero, List.set_cons_succ, i64_w, i32_w]
                          rfl
                        refine pure_ (i := 7) (N := some 27) (v := ?_) (a' := ?_) #[true, true, true, false, true, true, true, true, false, false, false, false] rfl rfl (any_of HT_.out (by kernel_rfl)) (fun _ _ _ h => h) (Or.inl ⟨by rfl, ?_⟩) ?_ ?_
                        rotate_left
                        · intro w'
                          go_simp
                          with_reducible rfl
                        rotate_left
                        · simp only [Act.put, List.setIfInBounds_toArray, List.set_cons_zero, List.set_cons_succ, i64_w, i32_w]
                          rfl
                        refine pure_ (i := 9) (N := some 29) (v := ?_) (a' := ?_) #[true, true, true, false, true, true, true, true, false, true, false, false] rfl rfl (any_of HT_.out (by kernel_rfl)) (fun _ _ _ h => h) (Or.inl ⟨by rfl, ?_⟩) ?_ ?_
                        rotate_left
                        · intro w'
                          go_simp
                          with_reducible rfl
                        rotate_left
                        · simp only [Act.put, List.setIfInBounds_toArray, List.set_cons_zero, List.set_cons_succ, i64_w, i32_w]
                          rfl
                        refine take_ (i := 3) (N := some 23) (v := ?_) (a' := ?_) #[true, true, true, true, true, true, true, true, false, true, false, false] rfl rfl (take_ofW HT_.out HW_.out (by kernel_rfl)) (fun _ _ _ h => h) (Or.inl ⟨by rfl, ?_⟩) hHeld ?_ ?_
                        rotate_left
                        · rintro w' ⟨s0, s1⟩
                          go_simp
                          with_reducible rfl
                        rotate_left
                        · simp only [Act.put, List.setIfInBounds_toArray, List.set_cons_zero, List.set_cons_succ, i64_w, i32_w]
                          rfl
                        refine take_ (i := 8) (N := some 28) (v := ?_) (a' := ?_) #[true, true, true, true, true, true, true, true, true, true, false, false] rfl rfl (take_ofW HT_.out HW_.out (by kernel_rfl)) (fun _ _ _ h => h) (Or.inl ⟨by rfl, ?_⟩) hHeld ?_ ?_
                        rotate_left
                        · rintro w' ⟨s0, s1⟩
                          go_simp
                          with_reducible rfl
                        rotate_left
                        · simp only [Act.put, List.setIfInBounds_toArray, List.set_cons_zero, List.set_cons_succ, i64_w, i32_w]
                          rfl
                        refine one_ (i := 10) (N := some 30) #[true, true, true, true, true, true, true, true, true, true, true, false] rfl rfl (one_of HT_.out (by kernel_rfl)) (by decide) (fun K hK => ?_)
                        refine goes_ Try.func52 (by kernel_rfl) rfl #[.slice A210_0 (rd_L4 l0 x6_1).length c210_0, .slice A211_0 (rd_L4 x5_1 (ji8)).length c211_0, .slice A1 l1.length c1] (by rfl) rfl rfl (by (try simp only [List.map_toArray, List.map_cons, List.map_nil]); first | done | (simp only [hji8]; rfl) | rfl | (simp only [List.length_drop, List.length_take]; rfl)) ?_
                        with_reducible refine (hayloftref15_ahead.calls k2 _ _ (rd_L4 l0 x6_1) _ _ (rd_L4 x5_1 (ji8)) _ _ l1 true _ ?side1 ?side2 ?side3 ?side4 ?side5 ?side6 A11.out).mono ?_
                        (case side1 => repeat (first | exact (by repeat (first | (with_reducible exact HR210_0.out) | (with_reducible refine Kd.C_alloc ?_ _) | (with_reducible refine Kd.C_drewN ?_ _) | (with_reducible refine Kd.C_drew ?_) | exact HR210_0.out)) | (with_reducible refine Kd.C_alloc ?_ _) | (with_reducible refine Kd.C_drewN ?_ _) | (with_reducible refine Kd.C_drew ?_)))
                        (case side2 => exact HC210_0.out)
                        (case side3 => repeat (first | exact (by repeat (first | (with_reducible exact HR211_0.out) | (with_reducible refine Kd.C_alloc ?_ _) | (with_reducible refine Kd.C_drewN ?_ _) | (with_reducible refine Kd.C_drew ?_) | exact HR211_0.out)) | (with_reducible refine Kd.C_alloc ?_ _) | (with_reducible refine Kd.C_drewN ?_ _) | (with_reducible refine Kd.C_drew ?_)))
                        (case side4 => exact HC211_0.out)
                        (case side5 => repeat (first | exact (Kd.C_below HR1.out HB.out) | (with_reducible refine Kd.C_alloc ?_ _) | (with_reducible refine Kd.C_drewN ?_ _) | (with_reducible refine Kd.C_drew ?_)))
                        (case side6 => exact HC1.out)
                        rintro e w14 ⟨rfl, hb⟩
                        have HS0_ := (hb.cell (World.block_lt_of_cell? _ _ (hHeld.1))).trans (hHeld.1)
                        have HS1_ := (hb.cell (World.block_lt_of_cell? _ _ (hHeld.2))).trans (hHeld.2)
                        refine ⟨_, rfl, ?_⟩
                        have n0_ := Aside0.mk (Kd.V_below (by (with_reducible repeat (first | apply Kd.V_alloc | apply Kd.V_drewN | apply Kd.V_drew)); exact HO_0.out) hb)
                        have n1_ := Aside0.mk (Kd.N_below (by (with_reducible repeat (first | apply Kd.N_alloc | apply Kd.N_drewN | apply Kd.N_drew)); exact HO_5.out) hb)
                        have n2_ := Aside0.mk (Kd.V_below (by (with_reducible repeat (first | apply Kd.V_alloc | apply Kd.V_drewN | apply Kd.V_drew)); exact HL210_0.out) hb)
                        have n3_ := Aside0.mk (Kd.V_below (by (with_reducible repeat (first | apply Kd.V_alloc | apply Kd.V_drewN | apply Kd.V_drew)); exact HL211_0.out) hb)
                        have n4_ := Aside0.mk (Kd.C_below (by repeat (first | (with_reducible exact HR210_0.out) | (with_reducible refine Kd.C_alloc ?_ _) | (with_reducible refine Kd.C_drewN ?_ _) | (with_reducible refine Kd.C_drew ?_) | exact HR210_0.out)) hb)
                        have n5_ := Aside0.mk (Kd.C_below (by repeat (first | (with_reducible exact HR211_0.out) | (with_reducible refine Kd.C_alloc ?_ _) | (with_reducible refine Kd.C_drewN ?_ _) | (with_reducible refine Kd.C_drew ?_) | exact HR211_0.out)) hb)
                        have n6_ := Aside0.mk (below_step (by repeat (first | (with_reducible first | exact HB.out | apply below_alloc | apply pw_below_drewN | apply below_drew1) | exact HB.out)) hb)
                        clear HO_0
                        clear HO_5
                        clear HL210_0
                        clear HL211_0
                        clear HR210_0
                        clear HR211_0
                        clear HB
                        have HO_0 := n0_
                        have HO_5 := n1_
                        have HL210_0 := n2_
                        have HL211_0 := n3_
                        have HR210_0 := n4_
                        have HR211_0 := n5_
                        have HB := n6_
                        clear n0_ n1_ n2_ n3_ n4_ n5_ n6_
                        (try clear hb)
                        (try clear hb2)
                        (try clear hk)
                        (try clear hi)
                        refine hK.out _ _ ⟨HS0_, HS1_⟩ (fun hHeld => ?_)
                        clear hK K
                        refine norm_ (a' := ?_) ?_ ?_
                        rotate_left
                        · show Act.put _ (some 30) _ = _
                          simp only [Act.put, List.setIfInBounds_toArray, List.set_cons_zero, List.set_cons_succ, i64_w, i32_w]
                          rfl
                        refine pure_ (i := 11) (N := some 8) (v := ?_) (a' := ?_) #[true, true, true, true, true, true, true, true, true, true, true, true] rfl rfl (any_of HT_.out (by kernel_rfl)) (fun _ _ _ h => h) (Or.inl ⟨by rfl, ?_⟩) ?_ ?_
                        rotate_left
                        · intro w'
                          go_simp
                          with_reducible rfl
                        rotate_left
                        · simp only [Act.put, List.setIfInBounds_toArray, List.set_cons_zero, List.set_cons_succ, i64_w, i32_w]
                          rfl
                        refine done_ (done_of HT_.out (by kernel_rfl)) ?_
                        try go_wp2
                        go_roundg k2
                        case measure => have := HK1.out; have := HK2.out; omega
                        case rel => exact ⟨(ji8), (by first | rfl | (simp; done) | (simp only [← hji8] <;> (first | rfl | simp)) | (simp [*]; done)), H', ⟨by have := HK1.out; have := HK2.out; omega⟩, ⟨by (with_reducible repeat (first | apply Kd.V_alloc | apply Kd.V_drewN | apply Kd.V_drew)); exact HO_0.out⟩, ⟨by (with_reducible repeat (first | apply Kd.N_alloc | apply Kd.N_drewN | apply Kd.N_drew)); exact HO_5.out⟩, ⟨by repeat (first | (with_reducible first | exact HB.out | apply below_alloc | apply pw_below_drewN | apply below_drew1) | exact HB.out)⟩⟩
                      · replace c12 := Bool.eq_false_iff.mpr c12
                        subst c12
                        have H1 : (if 0 ≤ x7_2 then (if x7_2 ≤ (x5_1.length : Int) then ((some (x5_1.take (x7_2 : Int).toNat : List (List (S42)))).bind fun y213 => (if ([] : List (List (S42))).length + y213.length < 5864062014805 then ((some (([] : List (List (S42))) ++ y213 : List (List (S42)))).bind fun y218 => (if y218.length < 5864062014805 then ((some (y218 ++ [rd_L4 l0 x6_1] : List (List (S42)))).bind fun y222 => ((some (x5_1.drop (x7_2 : Int).toNat : List (List (S42)))).bind fun y225 => (if y222.length + y225.length < 5864062014805 then (hayloftref15_Sort.l0 k2 l0 l1 (y222 ++ y225) (wrap64 (x6_1 + 1))) else (none)))) else (none))) else (none))) else (none)) else (none)) = some r := by rw [if_neg (show ¬ (false = true) by decide)] at H; exact H
                        clear H
                        have H := H1
                        clear H1
                        by_cases c15 : 0 ≤ x7_2
                        · rw [if_pos c15] at H
                          have c15b0 := eq_true c15
                          have c15b1 : decide (0 ≤ x7_2) = true := decide_eq_true c15
                          clear c15
                          by_cases c16 : x7_2 ≤ (x5_1.length : Int)
                          · rw [if_pos c16] at H
                            have c16b0 := eq_true c16
                            have c16b1 : decide (x7_2 ≤ (x5_1.length : Int)) = true := decide_eq_true c16
                            clear c16
                            obtain ⟨y213, hy213⟩ : ∃ y_ : List (List (S42)), y_ = (x5_1.take (x7_2 : Int).toNat) := ⟨_, rfl⟩
                            replace H : (if ([] : List (List (S42))).length + y213.length < 5864062014805 then ((some (([] : List (List (S42))) ++ y213 : List (List (S42)))).bind fun y218 => (if y218.length < 5864062014805 then ((some (y218 ++ [rd_L4 l0 x6_1] : List (List (S42)))).bind fun y222 => ((some (x5_1.drop (x7_2 : Int).toNat : List (List (S42)))).bind fun y225 => (if y222.length + y225.length < 5864062014805 then (hayloftref15_Sort.l0 k2 l0 l1 (y222 ++ y225) (wrap64 (x6_1 + 1))) else (none)))) else (none))) else (none)) = some r := by first | (rw [hy213]; with_reducible exact H) | (have H2_ := (Option.bind_some _ _).symm.trans H; rw [hy213]; with_reducible exact H2_) | (have H2_ := (Option.bind_some _ _).symm.trans H; with_reducible exact H2_) | with_reducible exact H | (rw [hy213]; exact H) | exact H
                            have Ny213 := Aside0.mk hy213
                            clear hy213
                            by_cases c17 : ([] : List (List (S42))).length + y213.length < 5864062014805
                            · rw [if_pos c17] at H
                              have LMc17 := Aside0.mk c17
                              clear c17
                              obtain ⟨y218, hy218⟩ : ∃ y_ : List (List (S42)), y_ = (([] : List (List (S42))) ++ y213) := ⟨_, rfl⟩
                              replace H : (if y218.length < 5864062014805 then ((some (y218 ++ [rd_L4 l0 x6_1] : List (List (S42)))).bind fun y222 => ((some (x5_1.drop (x7_2 : Int).toNat : List (List (S42)))).bind fun y225 => (if y222.length + y225.length < 5864062014805 then (hayloftref15_Sort.l0 k2 l0 l1 (y222 ++ y225) (wrap64 (x6_1 + 1))) else (none)))) else (none)) = some r := by first | (rw [hy218]; with_reducible exact H) | (have H2_ := (Option.bind_some _ _).symm.trans H; rw [hy218]; with_reducible exact H2_) | (have H2_ := (Option.bind_some _ _).symm.trans H; with_reducible exact H2_) | with_reducible exact H | (rw [hy218]; exact H) | exact H
                              have Ny218 := Aside0.mk hy218
                              clear hy218
                              by_cases c18 : y218.length < 5864062014805
                              · rw [if_pos c18] at H
                                have LMc18 := Aside0.mk c18
                                clear c18
                                obtain ⟨y222, hy222⟩ : ∃ y_ : List (List (S42)), y_ = (y218 ++ [rd_L4 l0 x6_1]) := ⟨_, rfl⟩
                                replace H : ((some (x5_1.drop (x7_2 : Int).toNat : List (List (S42)))).bind fun y225 => (if y222.length + y225.length < 5864062014805 then (hayloftref15_Sort.l0 k2 l0 l1 (y222 ++ y225) (wrap64 (x6_1 + 1))) else (none))) = some r := by first | (rw [hy222]; with_reducible exact H) | (have H2_ := (Option.bind_some _ _).symm.trans H; rw [hy222]; with_reducible exact H2_) | (have H2_ := (Option.bind_some _ _).symm.trans H; with_reducible exact H2_) | with_reducible exact H | (rw [hy222]; exact H) | exact H
                                have Ny222 := Aside0.mk hy222
                                clear hy222
                                have c19b0 := eq_true (of_decide_eq_true (by first | (with_reducible assumption) | assumption) : 0 ≤ x7_2)
                                have c20b0 := eq_true (of_decide_eq_true (by first | (with_reducible assumption) | assumption) : x7_2 ≤ (x5_1.length : Int))
                                obtain ⟨y225, hy225⟩ : ∃ y_ : List (List (S42)), y_ = (x5_1.drop (x7_2 : Int).toNat) := ⟨_, rfl⟩
                                replace H : (if y222.length + y225.length < 5864062014805 then (hayloftref15_Sort.l0 k2 l0 l1 (y222 ++ y225) (wrap64 (x6_1 + 1))) else (none)) = some r := by first | (rw [hy225]; with_reducible exact H) | (have H2_ := (Option.bind_some _ _).symm.trans H; rw [hy225]; with_reducible exact H2_) | (have H2_ := (Option.bind_some _ _).symm.trans H; with_reducible exact H2_) | with_reducible exact H | (rw [hy225]; exact H) | exact H
                                have Ny225 := Aside0.mk hy225
                                clear hy225
                                by_cases c21 : y222.length + y225.length < 5864062014805
                                · rw [if_pos c21] at H
                                  have LMc21 := Aside0.mk c21
                                  clear c21
                                  obtain ⟨y230, hy230⟩ : ∃ y_ : List (List (S42)), y_ = (y222 ++ y225) := ⟨_, rfl⟩
                                  replace H : (hayloftref15_Sort.l0 k2 l0 l1 y230 (wrap64 (x6_1 + 1))) = some r := by first | (rw [hy230]; with_reducible exact H) | (have H2_ := (Option.bind_some _ _).symm.trans H; rw [hy230]; with_reducible exact H2_) | (have H2_ := (Option.bind_some _ _).symm.trans H; with_reducible exact H2_) | with_reducible exact H | (rw [hy230]; exact H) | exact H
                                  have Ny230 := Aside0.mk hy230
                                  clear hy230
                                  have H' := Aside0.mk H
                                  clear H
                                  try go_wp2
                                  have n0_ := Aside0.mk (Kd.V_drew HO_0.out)
                                  have n1_ := Aside0.mk (Kd.N_drew HO_5.out)
                                  have n2_ := Aside0.mk (below_drew1 HB.out)
                                  clear HO_0
                                  clear HO_5
                                  clear HB
                                  have HO_0 := n0_
                                  have HO_5 := n1_
                                  have HB := n2_
                                  clear n0_ n1_ n2_
                                  have p210 : 0 ≤ (x6_1 : Int) := of_decide_eq_true (by first | (with_reducible assumption) | assumption)
                                  have q210 : x6_1 < (l0.length : Int) := of_decide_eq_true (by first | (with_reducible assumption) | assumption)
                                  obtain ⟨ad210, A210_0, c210_0, e210, hx210_0, hl210_0, hi210_0⟩ := at_L4 (Kd.V_reads' HO_0.out).2.2 x6_1 p210 q210
                                  cases e210
                                  obtain ⟨ce210, hce210, hMe210, hcc210⟩ := Kd.V_get HO_0.out [] x6_1 p210 (by first | exact q210 | exact of_decide_eq_true (by first | (with_reducible assumption) | assumption) | (have e_ := (Kd.V_reads' HO_0.out).1; omega))
                                  obtain ⟨ua210_0, uc210_0, rfl, ul210_0, ge210_0⟩ := Kd.FK_slice_open hMe210
                                  have hv210_0 := hcc210 0 _ rfl
                                  rw [Nat.add_zero, show ((Kd.slice 42 k42)).sz = 1 from rfl, Nat.mul_one] at hv210_0
                                  replace hv210_0 := Option.some.inj (hv210_0.symm.trans hx210_0)
                                  injection hv210_0 with hva_ hvn_ hvc_
                                  rw [hva_] at ge210_0
                                  rw [hvc_] at ul210_0
                                  have HL210_0 := Aside0.mk (show Kd.V k42 42 _ w.heap.size _ _ (rd_L4 l0 x6_1) from Kd.V_mk ul210_0 ge210_0)
                                  clear hva_ hvn_ hvc_ ge210_0 ul210_0
                                  clear hcc210 hce210
                                  have HR210_0 := Aside0.mk hi210_0
                                  have HC210_0 := Aside0.mk hl210_0
                                  clear hi210_0 hl210_0
                                  replace p210 := eq_true p210
                                  replace q210 := eq_true q210
                                  have p211 : 0 ≤ ((ji8) : Int) := of_decide_eq_true (by first | (with_reducible assumption) | assumption)
                                  have q211 : (ji8) < (x5_1.length : Int) := of_decide_eq_true (by first | (with_reducible assumption) | assumption)
                                  obtain ⟨ad211, A211_0, c211_0, e211, hx211_0, hl211_0, hi211_0⟩ := at_L4 (Kd.N_reads' HO_5.out).2.2 (ji8) p211 q211
                                  cases e211
                                  obtain ⟨ce211, hce211, hMe211, hcc211⟩ := Kd.N_get HO_5.out [] (ji8) p211 (by first | exact q211 | exact of_decide_eq_true (by first | (with_reducible assumption) | assumption) | (have e_ := (Kd.N_reads' HO_5.out).1; omega))
                                  obtain ⟨ua211_0, uc211_0, rfl, ul211_0, ge211_0⟩ := Kd.FK_slice_open hMe211
                                  have hv211_0 := hcc211 0 _ rfl
                                  rw [Nat.add_zero, show ((Kd.slice 42 k42)).sz = 1 from rfl, Nat.mul_one] at hv211_0
                                  replace hv211_0 := Option.some.inj (hv211_0.symm.trans hx211_0)
                                  injection hv211_0 with hva_ hvn_ hvc_
                                  rw [hva_] at ge211_0
                                  rw [hvc_] at ul211_0
                                  have HL211_0 := Aside0.mk (show Kd.V k42 42 _ w.heap.size _ _ (rd_L4 x5_1 (ji8)) from Kd.V_mk ul211_0 ge211_0)
                                  clear hva_ hvn_ hvc_ ge211_0 ul211_0
                                  clear hcc211 hce211
                                  have HR211_0 := Aside0.mk hi211_0
                                  have HC211_0 := Aside0.mk hl211_0
                                  clear hi211_0 hl211_0
                                  replace p211 := eq_true p211
                                  replace q211 := eq_true q211
                                  refine start_ (n := 12) (S := fun w' => w'.cell? (ad210.add (x6_1).toNat) = some (.slice A210_0 (rd_L4 l0 x6_1).length c210_0) ∧ w'.cell? (ad211.add ((ji8)).toNat) = some (.slice A211_0 (rd_L4 x5_1 (ji8)).length c211_0)) (ds := []) #[false, false, false, false, false, false, false, false, false, false, false, false] (by kernel_rfl) rfl rfl ⟨hx210_0, hx211_0⟩ (fun hHeld => ?_); refine with_tabW hayloftref15_Sort.tab7 hayloftref15_Sort.bits7 (fun HT_ HW_ => ?_)
                                  generalize wr.drew = w22 at HO_0 HO_5 HB HL210_0 HL211_0 HR210_0 HR211_0 hx210_0 hx211_0 hHeld ⊢
                                  refine pure_ (i := 0) (N := some 20) (v := ?_) (a' := ?_) #[true, false, false, false, false, false, false, false, false, false, false, false] rfl rfl (any_of HT_.out (by kernel_rfl)) (fun _ _ _ h => h) (Or.inl ⟨by rfl, ?_⟩) ?_ ?_
                                  rotate_left
                                  · intro w'
                                    go_simp
                                    with_reducible rfl
                                  rotate_left
                                  · simp only [Act.put, List.setIfInBounds_toArray, List.set_cons_zero, List.set_cons_succ, i64_w, i32_w]
                                    rfl
                                  refine pure_ (i := 1) (N := some 21) (v := ?_) (a' := ?_) #[true, true, false, false, false, false, false, false, false, false, false, false] rfl rfl (any_of HT_.out (by kernel_rfl)) (fun _ _ _ h => h) (Or.inl ⟨by rfl, ?_⟩) ?_ ?_
                                  rotate_left
                                  · intro w'
                                    go_simp
                                    with_reducible rfl
                                  rotate_left
                                  · simp only [Act.put, List.setIfInBounds_toArray, List.set_cons_zero, List.set_cons_succ, i64_w, i32_w]
                                    rfl
                                  refine pure_ (i := 2) (N := some 22) (v := ?_) (a' := ?_) #[true, true, true, false, false, false, false, false, false, false, false, false] rfl rfl (any_of HT_.out (by kernel_rfl)) (fun _ _ _ h => h) (Or.inl ⟨by rfl, ?_⟩) ?_ ?_
                                  rotate_left
                                  · intro w'
                                    go_simp
                                    with_reducible rfl
                                  rotate_left
                                  · simp only [Act.put, List.setIfInBounds_toArray, List.set_cons_zero, List.set_cons_succ, i64_w, i32_w]
                                    rfl
                                  refine pure_ (i := 4) (N := some 24) (v := ?_) (a' := ?_) #[true, true, true, false, true, false, false, false, false, false, false, false] rfl rfl (any_of HT_.out (by kernel_rfl)) (fun _ _ _ h => h) (Or.inl ⟨by rfl, ?_⟩) ?_ ?_
                                  rotate_left
                                  · intro w'
                                    go_simp
                                    with_reducible rfl
                                  rotate_left
                                  · simp only [Act.put, List.setIfInBounds_toArray, List.set_cons_zero, List.set_cons_succ, i64_w, i32_w]
                                    rfl
                                  refine pure_ (i := 5) (N := some 25) (v := ?_) (a' := ?_) #[true, true, true, false, true, true, false, false, false, false, false, false] rfl rfl (any_of HT_.out (by kernel_rfl)) (fun _ _ _ h => h) (Or.inl ⟨by rfl, ?_⟩) ?_ ?_
                                  rotate_left
                                  · intro w'
                                    go_simp
                                    with_reducible rfl
                                  rotate_left
                                  · simp only [Act.put, List.setIfInBounds_toArray, List.set_cons_zero, List.set_cons_succ, i64_w, i32_w]
                                    rfl
                                  refine pure_ (i := 6) (N := some 26) (v := ?_) (a' := ?_) #[true, true, true, false, true, true, true, false, false, false, false, false] rfl rfl (any_of HT_.out (by kernel_rfl)) (fun _ _ _ h => h) (Or.inl ⟨by rfl, ?_⟩) ?_ ?_
                                  rotate_left
                                  · intro w'
                                    go_simp
                                    with_reducible rfl
                                  rotate_left
                                  · simp only [Act.put, List.setIfInBounds_toArray, List.set_cons_zero, List.set_cons_succ, i64_w, i32_w]
                                    rfl
                                  refine pure_ (i := 7) (N := some 27) (v := ?_) (a' := ?_) #[true, true, true, false, true, true, true, true, false, false, false, false] rfl rfl (any_of HT_.out (by kernel_rfl)) (fun _ _ _ h => h) (Or.inl ⟨by rfl, ?_⟩) ?_ ?_
                                  rotate_left
                                  · intro w'
                                    go_simp
                                    with_reducible rfl
                                  rotate_left
                                  · simp only [Act.put, List.setIfInBounds_toArray, List.set_cons_zero, List.set_cons_succ, i64_w, i32_w]
                                    rfl
                                  refine pure_ (i := 9) (N := some 29) (v := ?_) (a' := ?_) #[true, true, true, false, true, true, true, true, false, true, false, false] rfl rfl (any_of HT_.out (by kernel_rfl)) (fun _ _ _ h => h) (Or.inl ⟨by rfl, ?_⟩) ?_ ?_
                                  rotate_left
                                  · intro w'
                                    go_simp
                                    with_reducible rfl
                                  rotate_left
                                  · simp only [Act.put, List.setIfInBounds_toArray, List.set_cons_zero, List.set_cons_succ, i64_w, i32_w]
                                    rfl
                                  refine take_ (i := 3) (N := some 23) (v := ?_) (a' := ?_) #[true, true, true, true, true, true, true, true, false, true, false, false] rfl rfl (take_ofW HT_.out HW_.out (by kernel_rfl)) (fun _ _ _ h => h) (Or.inl ⟨by rfl, ?_⟩) hHeld ?_ ?_
                                  rotate_left
                                  · rintro w' ⟨s0, s1⟩
                                    go_simp
                                    with_reducible rfl
                                  rotate_left
                                  · simp only [Act.put, List.setIfInBounds_toArray, List.set_cons_zero, List.set_cons_succ, i64_w, i32_w]
                                    rfl
                                  refine take_ (i := 8) (N := some 28) (v := ?_) (a' := ?_) #[true, true, true, true, true, true, true, true, true, true, false, false] rfl rfl (take_ofW HT_.out HW_.out (by kernel_rfl)) (fun _ _ _ h => h) (Or.inl ⟨by rfl, ?_⟩) hHeld ?_ ?_
                                  rotate_left
                                  · rintro w' ⟨s0, s1⟩
                                    go_simp
                                    with_reducible rfl
                                  rotate_left
                                  · simp only [Act.put, List.setIfInBounds_toArray, List.set_cons_zero, List.set_cons_succ, i64_w, i32_w]
                                    rfl
                                  refine one_ (i := 10) (N := some 30) #[true, true, true, true, true, true, true, true, true, true, true, false] rfl rfl (one_of HT_.out (by kernel_rfl)) (by decide) (fun K hK => ?_)
                                  refine goes_ Try.func52 (by kernel_rfl) rfl #[.slice A210_0 (rd_L4 l0 x6_1).length c210_0, .slice A211_0 (rd_L4 x5_1 (ji8)).length c211_0, .slice A1 l1.length c1] (by rfl) rfl rfl (by (try simp only [List.map_toArray, List.map_cons, List.map_nil]); first | done | (simp only [hji8]; rfl) | rfl | (simp only [List.length_drop, List.length_take]; rfl)) ?_
                                  with_reducible refine (hayloftref15_ahead.calls k2 _ _ (rd_L4 l0 x6_1) _ _ (rd_L4 x5_1 (ji8)) _ _ l1 false _ ?side1 ?side2 ?side3 ?side4 ?side5 ?side6 A11.out).mono ?_
                                  (case side1 => repeat (first | exact (by repeat (first | (with_reducible exact HR210_0.out) | (with_reducible refine Kd.C_alloc ?_ _) | (with_reducible refine Kd.C_drewN ?_ _) | (with_reducible refine Kd.C_drew ?_) | exact HR210_0.out)) | (with_reducible refine Kd.C_alloc ?_ _) | (with_reducible refine Kd.C_drewN ?_ _) | (with_reducible refine Kd.C_drew ?_)))
                                  (case side2 => exact HC210_0.out)
                                  (case side3 => repeat (first | exact (by repeat (first | (with_reducible exact HR211_0.out) | (with_reducible refine Kd.C_alloc ?_ _) | (with_reducible refine Kd.C_drewN ?_ _) | (with_reducible refine Kd.C_drew ?_) | exact HR211_0.out)) | (with_reducible refine Kd.C_alloc ?_ _) | (with_reducible refine Kd.C_drewN ?_ _) | (with_reducible refine Kd.C_drew ?_)))
                                  (case side4 => exact HC211_0.out)
                                  (case side5 => repeat (first | exact (Kd.C_below HR1.out HB.out) | (with_reducible refine Kd.C_alloc ?_ _) | (with_reducible refine Kd.C_drewN ?_ _) | (with_reducible refine Kd.C_drew ?_)))
                                  (case side6 => exact HC1.out)
                                  rintro e w23 ⟨rfl, hb⟩
                                  have HS0_ := (hb.cell (World.block_lt_of_cell? _ _ (hHeld.1))).trans (hHeld.1)
                                  have HS1_ := (hb.cell (World.block_lt_of_cell? _ _ (hHeld.2))).trans (hHeld.2)
                                  refine ⟨_, rfl, ?_⟩
                                  have n0_ := Aside0.mk (Kd.V_below (by (with_reducible repeat (first | apply Kd.V_alloc | apply Kd.V_drewN | apply Kd.V_drew)); exact HO_0.out) hb)
                                  have n1_ := Aside0.mk (Kd.N_below (by (with_reducible repeat (first | apply Kd.N_alloc | apply Kd.N_drewN | apply Kd.N_drew)); exact HO_5.out) hb)
                                  have n2_ := Aside0.mk (Kd.V_below (by (with_reducible repeat (first | apply Kd.V_alloc | apply Kd.V_drewN | apply Kd.V_drew)); exact HL210_0.out) hb)
                                  have n3_ := Aside0.mk (Kd.V_below (by (with_reducible repeat (first | apply Kd.V_alloc | apply Kd.V_drewN | apply Kd.V_drew)); exact HL211_0.out) hb)
                                  have n4_ := Aside0.mk (Kd.C_below (by repeat (first | (with_reducible exact HR210_0.out) | (with_reducible refine Kd.C_alloc ?_ _) | (with_reducible refine Kd.C_drewN ?_ _) | (with_reducible refine Kd.C_drew ?_) | exact HR210_0.out)) hb)
                                  have n5_ := Aside0.mk (Kd.C_below (by repeat (first | (with_reducible exact HR211_0.out) | (with_reducible refine Kd.C_alloc ?_ _) | (with_reducible refine Kd.C_drewN ?_ _) | (with_reducible refine Kd.C_drew ?_) | exact HR211_0.out)) hb)
                                  have n6_ := Aside0.mk (below_step (by repeat (first | (with_reducible first | exact HB.out | apply below_alloc | apply pw_below_drewN | apply below_drew1) | exact HB.out)) hb)
                                  clear HO_0
                                  clear HO_5
                                  clear HL210_0
                                  clear HL211_0
                                  clear HR210_0
                                  clear HR211_0
                                  clear HB
                                  have HO_0 := n0_
                                  have HO_5 := n1_
                                  have HL210_0 := n2_
                                  have HL211_0 := n3_
                                  have HR210_0 := n4_
                                  have HR211_0 := n5_
                                  have HB := n6_
                                  clear n0_ n1_ n2_ n3_ n4_ n5_ n6_
                                  (try clear hb)
                                  (try clear hb2)
                                  (try clear hk)
                                  (try clear hi)
                                  refine hK.out _ _ ⟨HS0_, HS1_⟩ (fun hHeld => ?_)
                                  clear hK K
                                  refine norm_ (a' := ?_) ?_ ?_
                                  rotate_left
                                  · show Act.put _ (some 30) _ = _
                                    simp only [Act.put, List.setIfInBounds_toArray, List.set_cons_zero, List.set_cons_succ, i64_w, i32_w]
                                    rfl
                                  refine pure_ (i := 11) (N := some 8) (v := ?_) (a' := ?_) #[true, true, true, true, true, true, true, true, true, true, true, true] rfl rfl (any_of HT_.out (by kernel_rfl)) (fun _ _ _ h => h) (Or.inl ⟨by rfl, ?_⟩) ?_ ?_
                                  rotate_left
                                  · intro w'
                                    go_simp
                                    with_reducible rfl
                                  rotate_left
                                  · simp only [Act.put, List.setIfInBounds_toArray, List.set_cons_zero, List.set_cons_succ, i64_w, i32_w]
                                    rfl
                                  refine done_ (done_of HT_.out (by kernel_rfl)) ?_
                                  have q24 : (x7_2 : Int) ≤ ((x5_1.length : Int) : Int) := of_decide_eq_true (by first | (with_reducible assumption) | assumption)
                                  obtain ⟨i024, hi024, _, hsz24, _⟩ := info_parts info31
                                  have hroom24 : x5_1.length ≤ co4 := (Kd.N_reads' HO_5.out).2.1
                                  have hC24 : Kd.F (Kd.slice 42 k42) _ _ (some ad211) x5_1.length x5_1 := (Kd.V_at (base := w.heap.size) (Kd.N_V HO_5.out)).2.2
                                  have hcut24 := cut_to (P := Try.prog) 22 31 .i64 Try.underlying22 hi024 (some ad211) x5_1.length co4 x7_2 (of_decide_eq_true (by first | (with_reducible assumption) | assumption)) q24 hroom24
                                  have hr24 := Kd.F_take (m := (x7_2 : Int).toNat) hC24 (by omega)
                                  have hy24 : y213.length = (x7_2 : Int).toNat := (by rw [Ny213.out, List.length_take]; omega)
                                  rw [← Ny213.out] at hr24
                                  rw [← hy24] at hcut24
                                  have HO217 := Aside0.mk (show Kd.V (Kd.slice 42 k42) 31 _ w.heap.size _ (.slice (some ad211) y213.length co4) y213 from Kd.V_mk (by omega) hr24)
                                  have HC217 := Aside0.mk (show y213.length ≤ co4 from by omega)
                                  clear hr24 hC24 hroom24 hi024 hsz24
                                  have KY24 := Aside0.mk hy24
                                  clear hy24
                                  replace q24 := eq_true q24
                                  try go_wp2_with (first | ((with_reducible refine gate_builtin (b := .append) (xs := #[.tmp 35, .tmp 38]) rfl ?_); at_builtin; refine Kd.N_append_rows (Kd.slice 42 k42) (w0 := w) w.heap.size rfl (.tmp 35) (.tmp 38) 22 31 (.slice none 0 0) 24 rfl Try.underlying22 info31 rfl (by decide) (by omega) (.slice none 0 0) ([] : List (List (S42))) y213 _ _ _ (fun k_ => (P0_ k_ ∨ w.heap.size ≤ k_)) (fun k_ => ((fun k_ => (P0_ k_ ∨ w.heap.size ≤ k_))) k_ ∧ some k_ ≠ (.slice none 0 0 : Value).ownBlock) rfl rfl ?aO ?aR (fun _ hk => hk) ?aF ?aB ?aS ?aL ?_; (case aR => exact (by skip; exact Kd.V_F (Kd.V_mono (ok' := (fun k_ => ((fun k_ => (P0_ k_ ∨ w.heap.size ≤ k_))) k_ ∧ some k_ ≠ (.slice none 0 0 : Value).ownBlock)) (HO217.out) (fun k_ hk => ⟨hk, (by simp [Value.ownBlock])⟩)))); (case aB => exact (by repeat (first | (with_reducible first | exact HB.out | apply below_alloc | apply pw_below_drewN | apply below_drew1) | exact HB.out))); (case aF => exact (fun k_ hk => (.inr (Nat.le_trans (below_size (by repeat (first | (with_reducible first | exact HB.out | apply below_alloc | apply pw_below_drewN | apply below_drew1) | exact HB.out))) hk)))); (case aO => exact ((Kd.N_nil _ _ _ _ (fun k_ => (P0_ k_ ∨ w.heap.size ≤ k_))))); (case aS => exact (below_size (by repeat (first | (with_reducible first | exact HB.out | apply below_alloc | apply pw_below_drewN | apply below_drew1) | exact HB.out)))); (case aL => have := LMc17.out; omega); intro v219 w25 ho hb hg hat; rw [← Ny218.out] at ho; have n0_ := Aside0.mk (Kd.V_afterv (Kd.V_apart_nil (by (with_reducible repeat (first | apply Kd.V_alloc | apply Kd.V_drewN | apply Kd.V_drew)); exact HO_0.out)) hg hat); have n1_ := Aside0.mk (Kd.N_afterv (Kd.N_apart_nil (by (with_reducible repeat (first | apply Kd.N_alloc | apply Kd.N_drewN | apply Kd.N_drew)); exact HO_5.out)) hg hat); have n2_ := Aside0.mk (Kd.V_afterv (Kd.V_apart_nil (by (with_reducible repeat (first | apply Kd.V_alloc | apply Kd.V_drewN | apply Kd.V_drew)); exact HL210_0.out)) hg hat); have n3_ := Aside0.mk (Kd.V_afterv (Kd.V_apart_nil (by (with_reducible repeat (first | apply Kd.V_alloc | apply Kd.V_drewN | apply Kd.V_drew)); exact HL211_0.out)) hg hat); have n4_ := Aside0.mk (Kd.V_afterv (Kd.V_apart_nil (by (with_reducible repeat (first | apply Kd.V_alloc | apply Kd.V_drewN | apply Kd.V_drew)); exact HO217.out)) hg hat); have n5_ := Aside0.mk (hb); have n6_ := Aside0.mk (ho); clear HO_0; clear HO_5; clear HL210_0; clear HL211_0; clear HO217; clear HB; have HO_0 := n0_; have HO_5 := n1_; have HL210_0 := n2_; have HL211_0 := n3_; have HO217 := n4_; have HB := n5_; have HO220 := n6_; clear n0_ n1_ n2_ n3_ n4_ n5_ n6_; clear ho hb hg hat; have p221 : 0 ≤ (x6_1 : Int) := of_decide_eq_true (by first | (with_reducible assumption) | assumption); have q221 : x6_1 < (l0.length : Int) := of_decide_eq_true (by first | (with_reducible assumption) | assumption); obtain ⟨ad221, A221_0, c221_0, e221, hx221_0, hl221_0, hi221_0⟩ := at_L4 (Kd.V_reads' HO_0.out).2.2 x6_1 p221 q221; obtain rfl : ad210 = ad221 := (by injection e221); obtain ⟨ce221, hce221, hMe221, hcc221⟩ := Kd.V_get HO_0.out [] x6_1 p221 (by first | exact q221 | exact of_decide_eq_true (by first | (with_reducible assumption) | assumption) | (have e_ := (Kd.V_reads' HO_0.out).1; omega)); obtain ⟨ua221_0, uc221_0, rfl, ul221_0, ge221_0⟩ := Kd.FK_slice_open hMe221; have hv221_0 := hcc221 0 _ rfl; rw [Nat.add_zero, show ((Kd.slice 42 k42)).sz = 1 from rfl, Nat.mul_one] at hv221_0; replace hv221_0 := Option.some.inj (hv221_0.symm.trans hx221_0); injection hv221_0 with hva_ hvn_ hvc_; rw [hva_] at ge221_0; rw [hvc_] at ul221_0; have HL221_0 := Aside0.mk (show Kd.V k42 42 _ w.heap.size _ _ (rd_L4 l0 x6_1) from Kd.V_mk ul221_0 ge221_0); clear hva_ hvn_ hvc_ ge221_0 ul221_0; clear hcc221 hce221; have HR221_0 := Aside0.mk hi221_0; have HC221_0 := Aside0.mk hl221_0; clear hi221_0 hl221_0; replace p221 := eq_true p221; replace q221 := eq_true q221) | ((with_reducible refine gate_builtin (b := .append) (xs := #[.tmp 40, .tmp 45]) rfl ?_); at_builtin; refine Kd.N_append (Kd.slice 42 k42) (w0 := w) w.heap.size rfl (.tmp 40) (.tmp 45) 22 31 (.slice none 0 0) 24 rfl Try.underlying22 info31 rfl (by decide) (by omega) v219 y218 (rd_L4 l0 x6_1) [.slice A221_0 (rd_L4 l0 x6_1).length c221_0] (fun k_ => (P0_ k_ ∨ w.heap.size ≤ k_)) (fun k_ => ((fun k_ => (P0_ k_ ∨ w.heap.size ≤ k_))) k_ ∧ some k_ ≠ (v219 : Value).ownBlock) rfl rfl ?aP (fun _ hk => hk) ?aF ?aO ?aB ?aS ?aL ?_; (case aP => exact (Kd.FK_slice_mk (Kd.V_reads' (Kd.V_mono (ok' := (fun k_ => ((fun k_ => (P0_ k_ ∨ w.heap.size ≤ k_))) k_ ∧ some k_ ≠ (v219 : Value).ownBlock)) (HL221_0.out) (fun k_ hk => ⟨hk.1.1, hk.2⟩))).2.1 (Kd.V_F (Kd.V_mono (ok' := (fun k_ => ((fun k_ => (P0_ k_ ∨ w.heap.size ≤ k_))) k_ ∧ some k_ ≠ (v219 : Value).ownBlock)) (HL221_0.out) (fun k_ hk => ⟨hk.1.1, hk.2⟩))))); (case aB => exact (by repeat (first | (with_reducible first | exact HB.out | apply below_alloc | apply pw_below_drewN | apply below_drew1) | exact HB.out))); (case aF => exact (fun k_ hk => (.inr (Nat.le_trans (below_size (by repeat (first | (with_reducible first | exact HB.out | apply below_alloc | apply pw_below_drewN | apply below_drew1) | exact HB.out))) hk)))); (case aO => exact (by (with_reducible repeat (first | apply Kd.N_alloc | apply Kd.N_drewN | apply Kd.N_drew)); exact HO220.out)); (case aS => exact (below_size (by repeat (first | (with_reducible first | exact HB.out | apply below_alloc | apply pw_below_drewN | apply below_drew1) | exact HB.out)))); (case aL => have := LMc18.out; omega); intro v223 w26 ho hb hg hat; rw [← Ny222.out] at ho; have n0_ := Aside0.mk (Kd.V_afterv (ok := (fun k_ => (P0_ k_ ∨ w.heap.size ≤ k_) ∧ some k_ ≠ (.slice (some ad211) x5_1.length co4 : Value).ownBlock)) (by (with_reducible repeat (first | apply Kd.V_alloc | apply Kd.V_drewN | apply Kd.V_drew)); exact HO_0.out) hg hat); have n1_ := Aside0.mk (Kd.N_afterv (ok := (fun k_ => (P0_ k_ ∨ w.heap.size ≤ k_))) (by (with_reducible repeat (first | apply Kd.N_alloc | apply Kd.N_drewN | apply Kd.N_drew)); exact HO_5.out) hg hat); have n2_ := Aside0.mk (Kd.V_afterv (ok := (fun k_ => (P0_ k_ ∨ w.heap.size ≤ k_) ∧ some k_ ≠ (.slice (some ad211) x5_1.length co4 : Value).ownBlock)) (by (with_reducible repeat (first | apply Kd.V_alloc | apply Kd.V_drewN | apply Kd.V_drew)); exact HL210_0.out) hg hat); have n3_ := Aside0.mk (Kd.V_afterv (ok := (fun k_ => (P0_ k_ ∨ w.heap.size ≤ k_) ∧ some k_ ≠ (.slice (some ad211) x5_1.length co4 : Value).ownBlock)) (by (with_reducible repeat (first | apply Kd.V_alloc | apply Kd.V_drewN | apply Kd.V_drew)); exact HL211_0.out) hg hat); have n4_ := Aside0.mk (Kd.V_afterv (ok := (fun k_ => (P0_ k_ ∨ w.heap.size ≤ k_))) (by (with_reducible repeat (first | apply Kd.V_alloc | apply Kd.V_drewN | apply Kd.V_drew)); exact HO217.out) hg hat); have n5_ := Aside0.mk (Kd.V_afterv (ok := (fun k_ => (P0_ k_ ∨ w.heap.size ≤ k_) ∧ some k_ ≠ (.slice (some ad211) x5_1.length co4 : Value).ownBlock)) (by (with_reducible repeat (first | apply Kd.V_alloc | apply Kd.V_drewN | apply Kd.V_drew)); exact HL221_0.out) hg hat); have n6_ := Aside0.mk (hb); have n7_ := Aside0.mk (ho); clear HO_0; clear HO_5; clear HL210_0; clear HL211_0; clear HO217; clear HL221_0; clear HB; clear HO220; have HO_0 := n0_; have HO_5 := n1_; have HL210_0 := n2_; have HL211_0 := n3_; have HO217 := n4_; have HL221_0 := n5_; have HB := n6_; have HO224 := n7_; clear n0_ n1_ n2_ n3_ n4_ n5_ n6_ n7_; clear ho hb hg hat; have q27 : (x7_2 : Int) ≤ ((x5_1.length : Int) : Int) := of_decide_eq_true (by first | (with_reducible assumption) | assumption); obtain ⟨i027, hi027, _, hsz27, _⟩ := info_parts info31; have hroom27 : x5_1.length ≤ co4 := (Kd.N_reads' HO_5.out).2.1; have hC27 : Kd.F (Kd.slice 42 k42) _ _ (some ad211) x5_1.length x5_1 := (Kd.V_at (base := w.heap.size) (Kd.N_V HO_5.out)).2.2; have q027 : (0 : Int) ≤ (x7_2 : Int) := of_decide_eq_true (by first | (with_reducible assumption) | assumption); have hcut27 := cut_from (P := Try.prog) 22 31 .i64 Try.underlying22 hi027 1 hsz27 (some ad211) x5_1.length co4 x7_2 q027 q27; have hr27 := Kd.F_cut (m := (x7_2 : Int).toNat) (c := co4) hC27 (by omega) hroom27; obtain ⟨A27, hA27⟩ : ∃ A1, A1 = (if co4 = (x7_2 : Int).toNat then (some ad211) else ((some ad211) : Option Addr).map (·.add ((x7_2 : Int).toNat * 1))) := ⟨_, rfl⟩; obtain ⟨c27, hc27⟩ : ∃ c1, c1 = co4 - (x7_2 : Int).toNat := ⟨_, rfl⟩; have hy27 : y225.length = x5_1.length - (x7_2 : Int).toNat := (by rw [Ny225.out, List.length_drop] <;> omega); rw [show (x5_1).drop (x7_2 : Int).toNat = y225 from Ny225.out.symm] at hr27; replace hr27 : Kd.F (Kd.slice 42 k42) _ _ A27 y225.length y225 := (by rw [hA27]; exact hr27); rw [← hy27, ← hA27, ← hc27] at hcut27; have HO229 := Aside0.mk (show Kd.V (Kd.slice 42 k42) 31 _ w.heap.size _ (.slice A27 y225.length c27) y225 from Kd.V_mk (by rw [hy27, hc27]; exact Nat.sub_le_sub_right hroom27 _) hr27); have HC229 := Aside0.mk (show y225.length ≤ c27 from by rw [hy27, hc27]; exact Nat.sub_le_sub_right hroom27 _); clear hr27 hC27 hroom27 hi027 hsz27 hc27; have KY27 := Aside0.mk hy27; have KA27 := Aside0.mk hA27; clear hy27 hA27; replace q27 := eq_true q27) | ((with_reducible refine gate_builtin (b := .append) (xs := #[.tmp 47, .tmp 50]) rfl ?_); at_builtin; refine Kd.N_append_rows (Kd.slice 42 k42) (w0 := w) w.heap.size rfl (.tmp 47) (.tmp 50) 22 31 (.slice none 0 0) 24 rfl Try.underlying22 info31 rfl (by decide) (by omega) v223 y222 y225 _ _ _ (fun k_ => (P0_ k_ ∨ w.heap.size ≤ k_)) (fun k_ => ((fun k_ => (P0_ k_ ∨ w.heap.size ≤ k_))) k_ ∧ some k_ ≠ (v223 : Value).ownBlock) rfl rfl ?aO ?aR (fun _ hk => hk) ?aF ?aB ?aS ?aL ?_; (case aR => exact (by skip; exact Kd.V_F (Kd.V_mono (ok' := (fun k_ => ((fun k_ => (P0_ k_ ∨ w.heap.size ≤ k_))) k_ ∧ some k_ ≠ (v223 : Value).ownBlock)) (HO229.out) (fun k_ hk => ⟨hk.1, hk.2⟩)))); (case aB => exact (by repeat (first | (with_reducible first | exact HB.out | apply below_alloc | apply pw_below_drewN | apply below_drew1) | exact HB.out))); (case aF => exact (fun k_ hk => (.inr (Nat.le_trans (below_size (by repeat (first | (with_reducible first | exact HB.out | apply below_alloc | apply pw_below_drewN | apply below_drew1) | exact HB.out))) hk)))); (case aO => exact (by (with_reducible repeat (first | apply Kd.N_alloc | apply Kd.N_drewN | apply Kd.N_drew)); exact HO224.out)); (case aS => exact (below_size (by repeat (first | (with_reducible first | exact HB.out | apply below_alloc | apply pw_below_drewN | apply below_drew1) | exact HB.out)))); (case aL => have := LMc21.out; omega); intro v231 w28 ho hb hg hat; rw [← Ny230.out] at ho; have n0_ := Aside0.mk (Kd.V_afterv (ok := (fun k_ => (P0_ k_ ∨ w.heap.size ≤ k_) ∧ some k_ ≠ (.slice (some ad211) x5_1.length co4 : Value).ownBlock)) (by (with_reducible repeat (first | apply Kd.V_alloc | apply Kd.V_drewN | apply Kd.V_drew)); exact HO_0.out) hg hat); have n1_ := Aside0.mk (Kd.N_afterv (ok := (fun k_ => (P0_ k_ ∨ w.heap.size ≤ k_))) (by (with_reducible repeat (first | apply Kd.N_alloc | apply Kd.N_drewN | apply Kd.N_drew)); exact HO_5.out) hg hat); have n2_ := Aside0.mk (Kd.V_afterv (ok := (fun k_ => (P0_ k_ ∨ w.heap.size ≤ k_) ∧ some k_ ≠ (.slice (some ad211) x5_1.length co4 : Value).ownBlock)) (by (with_reducible repeat (first | apply Kd.V_alloc | apply Kd.V_drewN | apply Kd.V_drew)); exact HL210_0.out) hg hat); have n3_ := Aside0.mk (Kd.V_afterv (ok := (fun k_ => (P0_ k_ ∨ w.heap.size ≤ k_) ∧ some k_ ≠ (.slice (some ad211) x5_1.length co4 : Value).ownBlock)) (by (with_reducible repeat (first | apply Kd.V_alloc | apply Kd.V_drewN | apply Kd.V_drew)); exact HL211_0.out) hg hat); have n4_ := Aside0.mk (Kd.V_afterv (ok := (fun k_ => (P0_ k_ ∨ w.heap.size ≤ k_))) (by (with_reducible repeat (first | apply Kd.V_alloc | apply Kd.V_drewN | apply Kd.V_drew)); exact HO217.out) hg hat); have n5_ := Aside0.mk (Kd.V_afterv (ok := (fun k_ => (P0_ k_ ∨ w.heap.size ≤ k_) ∧ some k_ ≠ (.slice (some ad211) x5_1.length co4 : Value).ownBlock)) (by (with_reducible repeat (first | apply Kd.V_alloc | apply Kd.V_drewN | apply Kd.V_drew)); exact HL221_0.out) hg hat); have n6_ := Aside0.mk (Kd.V_afterv (ok := (fun k_ => (P0_ k_ ∨ w.heap.size ≤ k_))) (by (with_reducible repeat (first | apply Kd.V_alloc | apply Kd.V_drewN | apply Kd.V_drew)); exact HO229.out) hg hat); have n7_ := Aside0.mk (hb); have n8_ := Aside0.mk (ho); clear HO_0; clear HO_5; clear HL210_0; clear HL211_0; clear HO217; clear HL221_0; clear HO229; clear HB; clear HO224; have HO_0 := n0_; have HO_5 := n1_; have HL210_0 := n2_; have HL211_0 := n3_; have HO217 := n4_; have HL221_0 := n5_; have HO229 := n6_; have HB := n7_; have HO232 := n8_; clear n0_ n1_ n2_ n3_ n4_ n5_ n6_ n7_ n8_; clear ho hb hg hat))
                                  go_roundg k2
                                  case measure => have := HK1.out; have := HK2.out; omega
                                  case rel => exact ⟨(y230), (wrap64 (x6_1 + 1)), (by first | rfl | (simp; done) | (simp [*]; done)), H', ⟨by have := HK1.out; have := HK2.out; omega⟩, ⟨by (with_reducible repeat (first | apply Kd.V_alloc | apply Kd.V_drewN | apply Kd.V_drew)); exact Kd.V_mono HO_0.out (fun _ hk => ⟨hk.1.1, hk.2⟩)⟩, ⟨by (with_reducible repeat (first | apply Kd.N_alloc | apply Kd.N_drewN | apply Kd.N_drew)); exact HO232.out⟩, ⟨by repeat (first | (with_reducible first | exact HB.out | apply below_alloc | apply pw_below_drewN | apply below_drew1) | exact HB.out)⟩⟩
                                · rw [if_neg c21] at H
                                  exact absurd H (by simp)
                              · rw [if_neg c18] at H
                                exact absurd H (by simp)
                            · rw [if_neg c17] at H
                              exact absurd H (by simp)
                          · rw [if_neg c16] at H
                            exact absurd H (by simp)
                        · rw [if_neg c15] at H
                          exact absurd H (by simp)
                    · rw [if_neg c10] at H
                      exact absurd H (by simp)
                  · rw [if_neg c9] at H
                    exact absurd H (by simp)
                · rw [if_neg c7] at H
                  exact absurd H (by simp)
              · rw [if_neg c6] at H
                exact absurd H (by simp)
            · rw [if_neg c5] at H
              have c5b0 : decide (0 < x7_2) = false := decide_eq_false c5
              clear c5
              by_cases c29 : 0 ≤ x7_2
              · rw [if_pos c29] at H
                have c29b0 := eq_true c29
                have c29b1 : decide (0 ≤ x7_2) = true := decide_eq_true c29
                clear c29
                by_cases c30 : x7_2 ≤ (x5_1.length : Int)
                · rw [if_pos c30] at H
                  have c30b0 := eq_true c30
                  have c30b1 : decide (x7_2 ≤ (x5_1.length : Int)) = true := decide_eq_true c30
                  clear c30
                  obtain ⟨y233, hy233⟩ : ∃ y_ : List (List (S42)), y_ = (x5_1.take (x7_2 : Int).toNat) := ⟨_, rfl⟩
                  replace H : (if ([] : List (List (S42))).length + y233.length < 5864062014805 then ((some (([] : List (List (S42))) ++ y233 : List (List (S42)))).bind fun y238 => (if 0 ≤ x6_1 then (if x6_1 < (l0.length : Int) then (if y238.length < 5864062014805 then ((some (y238 ++ [rd_L4 l0 x6_1] : List (List (S42)))).bind fun y242 => ((some (x5_1.drop (x7_2 : Int).toNat : List (List (S42)))).bind fun y245 => (if y242.length + y245.length < 5864062014805 then (hayloftref15_Sort.l0 k2 l0 l1 (y242 ++ y245) (wrap64 (x6_1 + 1))) else (none)))) else (none)) else (none)) else (none))) else (none)) = some r := by first | (rw [hy233]; with_reducible exact H) | (have H2_ := (Option.bind_some _ _).symm.trans H; rw [hy233]; with_reducible exact H2_) | (have H2_ := (Option.bind_some _ _).symm.trans H; with_reducible exact H2_) | with_reducible exact H | (rw [hy233]; exact H) | exact H
                  have Ny233 := Aside0.mk hy233
                  clear hy233
                  by_cases c31 : ([] : List (List (S42))).length + y233.length < 5864062014805
                  · rw [if_pos c31] at H
                    have LMc31 := Aside0.mk c31
                    clear c31
                    obtain ⟨y238, hy238⟩ : ∃ y_ : List (List (S42)), y_ = (([] : List (List (S42))) ++ y233) := ⟨_, rfl⟩
                    replace H : (if 0 ≤ x6_1 then (if x6_1 < (l0.length : Int) then (if y238.length < 5864062014805 then ((some (y238 ++ [rd_L4 l0 x6_1] : List (List (S42)))).bind fun y242 => ((some (x5_1.drop (x7_2 : Int).toNat : List (List (S42)))).bind fun y245 => (if y242.length + y245.length < 5864062014805 then (hayloftref15_Sort.l0 k2 l0 l1 (y242 ++ y245) (wrap64 (x6_1 + 1))) else (none)))) else (none)) else (none)) else (none)) = some r := by first | (rw [hy238]; with_reducible exact H) | (have H2_ := (Option.bind_some _ _).symm.trans H; rw [hy238]; with_reducible exact H2_) | (have H2_ := (Option.bind_some _ _).symm.trans H; with_reducible exact H2_) | with_reducible exact H | (rw [hy238]; exact H) | exact H
                    have Ny238 := Aside0.mk hy238
                    clear hy238
                    by_cases c32 : 0 ≤ x6_1
                    · rw [if_pos c32] at H
                      have c32b0 : decide (0 ≤ x6_1) = true := decide_eq_true c32
                      clear c32
                      by_cases c33 : x6_1 < (l0.length : Int)
                      · rw [if_pos c33] at H
                        have c33b0 : decide (x6_1 < (l0.length : Int)) = true := decide_eq_true c33
                        clear c33
                        by_cases c34 : y238.length < 5864062014805
                        · rw [if_pos c34] at H
                          have LMc34 := Aside0.mk c34
                          clear c34
                          obtain ⟨y242, hy242⟩ : ∃ y_ : List (List (S42)), y_ = (y238 ++ [rd_L4 l0 x6_1]) := ⟨_, rfl⟩
                          replace H : ((some (x5_1.drop (x7_2 : Int).toNat : List (List (S42)))).bind fun y245 => (if y242.length + y245.length < 5864062014805 then (hayloftref15_Sort.l0 k2 l0 l1 (y242 ++ y245) (wrap64 (x6_1 + 1))) else (none))) = some r := by first | (rw [hy242]; with_reducible exact H) | (have H2_ := (Option.bind_some _ _).symm.trans H; rw [hy242]; with_reducible exact H2_) | (have H2_ := (Option.bind_some _ _).symm.trans H; with_reducible exact H2_) | with_reducible exact H | (rw [hy242]; exact H) | exact H
                          have Ny242 := Aside0.mk hy242
                          clear hy242
                          have c35b0 := eq_true (of_decide_eq_true (by first | (with_reducible assumption) | assumption) : 0 ≤ x7_2)
                          have c36b0 := eq_true (of_decide_eq_true (by first | (with_reducible assumption) | assumption) : x7_2 ≤ (x5_1.length : Int))
                          obtain ⟨y245, hy245⟩ : ∃ y_ : List (List (S42)), y_ = (x5_1.drop (x7_2 : Int).toNat) := ⟨_, rfl⟩
                          replace H : (if y242.length + y245.length < 5864062014805 then (hayloftref15_Sort.l0 k2 l0 l1 (y242 ++ y245) (wrap64 (x6_1 + 1))) else (none)) = some r := by first | (rw [hy245]; with_reducible exact H) | (have H2_ := (Option.bind_some _ _).symm.trans H; rw [hy245]; with_reducible exact H2_) | (have H2_ := (Option.bind_some _ _).symm.trans H; with_reducible exact H2_) | with_reducible exact H | (rw [hy245]; exact H) | exact H
                          have Ny245 := Aside0.mk hy245
                          clear hy245
                          by_cases c37 : y242.length + y245.length < 5864062014805
                          · rw [if_pos c37] at H
                            have LMc37 := Aside0.mk c37
                            clear c37
                            obtain ⟨y250, hy250⟩ : ∃ y_ : List (List (S42)), y_ = (y242 ++ y245) := ⟨_, rfl⟩
                            replace H : (hayloftref15_Sort.l0 k2 l0 l1 y250 (wrap64 (x6_1 + 1))) = some r := by first | (rw [hy250]; with_reducible exact H) | (have H2_ := (Option.bind_some _ _).symm.trans H; rw [hy250]; with_reducible exact H2_) | (have H2_ := (Option.bind_some _ _).symm.trans H; with_reducible exact H2_) | with_reducible exact H | (rw [hy250]; exact H) | exact H
                            have Ny250 := Aside0.mk hy250
                            clear hy250
                            have H' := Aside0.mk H
                            clear H
                            have q38 : (x7_2 : Int) ≤ ((x5_1.length : Int) : Int) := of_decide_eq_true (by first | (with_reducible assumption) | assumption)
                            obtain ⟨i038, hi038, _, hsz38, _⟩ := info_parts info31
                            have hroom38 : x5_1.length ≤ co4 := (Kd.N_reads' HO_5.out).2.1
                            have hC38 : Kd.F (Kd.slice 42 k42) _ _ Ao4 x5_1.length x5_1 := (Kd.V_at (base := w.heap.size) (Kd.N_V HO_5.out)).2.2
                            have hcut38 := cut_to (P := Try.prog) 22 31 .i64 Try.underlying22 hi038 Ao4 x5_1.length co4 x7_2 (of_decide_eq_true (by first | (with_reducible assumption) | assumption)) q38 hroom38
                            have hr38 := Kd.F_take (m := (x7_2 : Int).toNat) hC38 (by omega)
                            have hy38 : y233.length = (x7_2 : Int).toNat := (by rw [Ny233.out, List.length_take]; omega)
                            rw [← Ny233.out] at hr38
                            rw [← hy38] at hcut38
                            have HO237 := Aside0.mk (show Kd.V (Kd.slice 42 k42) 31 _ w.heap.size _ (.slice Ao4 y233.length co4) y233 from Kd.V_mk (by omega) hr38)
                            have HC237 := Aside0.mk (show y233.length ≤ co4 from by omega)
                            clear hr38 hC38 hroom38 hi038 hsz38
                            have KY38 := Aside0.mk hy38
                            clear hy38
                            replace q38 := eq_true q38
                            go_wp2_with (first | ((with_reducible refine gate_builtin (b := .append) (xs := #[.tmp 35, .tmp 38]) rfl ?_); at_builtin; refine Kd.N_append_rows (Kd.slice 42 k42) (w0 := w) w.heap.size rfl (.tmp 35) (.tmp 38) 22 31 (.slice none 0 0) 24 rfl Try.underlying22 info31 rfl (by decide) (by omega) (.slice none 0 0) ([] : List (List (S42))) y233 _ _ _ (fun k_ => (P0_ k_ ∨ w.heap.size ≤ k_)) (fun k_ => ((fun k_ => (P0_ k_ ∨ w.heap.size ≤ k_))) k_ ∧ some k_ ≠ (.slice none 0 0 : Value).ownBlock) rfl rfl ?aO ?aR (fun _ hk => hk) ?aF ?aB ?aS ?aL ?_; (case aR => exact (by skip; exact Kd.V_F (Kd.V_mono (ok' := (fun k_ => ((fun k_ => (P0_ k_ ∨ w.heap.size ≤ k_))) k_ ∧ some k_ ≠ (.slice none 0 0 : Value).ownBlock)) (HO237.out) (fun k_ hk => ⟨hk, (by simp [Value.ownBlock])⟩)))); (case aB => exact (by repeat (first | (with_reducible first | exact HB.out | apply below_alloc | apply pw_below_drewN | apply below_drew1) | exact HB.out))); (case aF => exact (fun k_ hk => (.inr (Nat.le_trans (below_size (by repeat (first | (with_reducible first | exact HB.out | apply below_alloc | apply pw_below_drewN | apply below_drew1) | exact HB.out))) hk)))); (case aO => exact ((Kd.N_nil _ _ _ _ (fun k_ => (P0_ k_ ∨ w.heap.size ≤ k_))))); (case aS => exact (below_size (by repeat (first | (with_reducible first | exact HB.out | apply below_alloc | apply pw_below_drewN | apply below_drew1) | exact HB.out)))); (case aL => have := LMc31.out; omega); intro v239 w39 ho hb hg hat; rw [← Ny238.out] at ho; have n0_ := Aside0.mk (Kd.V_afterv (Kd.V_apart_nil (by (with_reducible repeat (first | apply Kd.V_alloc | apply Kd.V_drewN | apply Kd.V_drew)); exact HO_0.out)) hg hat); have n1_ := Aside0.mk (Kd.N_afterv (Kd.N_apart_nil (by (with_reducible repeat (first | apply Kd.N_alloc | apply Kd.N_drewN | apply Kd.N_drew)); exact HO_5.out)) hg hat); have n2_ := Aside0.mk (Kd.V_afterv (Kd.V_apart_nil (by (with_reducible repeat (first | apply Kd.V_alloc | apply Kd.V_drewN | apply Kd.V_drew)); exact HO237.out)) hg hat); have n3_ := Aside0.mk (hb); have n4_ := Aside0.mk (ho); clear HO_0; clear HO_5; clear HO237; clear HB; have HO_0 := n0_; have HO_5 := n1_; have HO237 := n2_; have HB := n3_; have HO240 := n4_; clear n0_ n1_ n2_ n3_ n4_; clear ho hb hg hat; have p241 : 0 ≤ (x6_1 : Int) := of_decide_eq_true (by first | (with_reducible assumption) | assumption); have q241 : x6_1 < (l0.length : Int) := of_decide_eq_true (by first | (with_reducible assumption) | assumption); obtain ⟨ad241, A241_0, c241_0, e241, hx241_0, hl241_0, hi241_0⟩ := at_L4 (Kd.V_reads' HO_0.out).2.2 x6_1 p241 q241; cases e241; obtain ⟨ce241, hce241, hMe241, hcc241⟩ := Kd.V_get HO_0.out [] x6_1 p241 (by first | exact q241 | exact of_decide_eq_true (by first | (with_reducible assumption) | assumption) | (have e_ := (Kd.V_reads' HO_0.out).1; omega)); obtain ⟨ua241_0, uc241_0, rfl, ul241_0, ge241_0⟩ := Kd.FK_slice_open hMe241; have hv241_0 := hcc241 0 _ rfl; rw [Nat.add_zero, show ((Kd.slice 42 k42)).sz = 1 from rfl, Nat.mul_one] at hv241_0; replace hv241_0 := Option.some.inj (hv241_0.symm.trans hx241_0); injection hv241_0 with hva_ hvn_ hvc_; rw [hva_] at ge241_0; rw [hvc_] at ul241_0; have HL241_0 := Aside0.mk (show Kd.V k42 42 _ w.heap.size _ _ (rd_L4 l0 x6_1) from Kd.V_mk ul241_0 ge241_0); clear hva_ hvn_ hvc_ ge241_0 ul241_0; clear hcc241 hce241; have HR241_0 := Aside0.mk hi241_0; have HC241_0 := Aside0.mk hl241_0; clear hi241_0 hl241_0; replace p241 := eq_true p241; replace q241 := eq_true q241) | ((with_reducible refine gate_builtin (b := .append) (xs := #[.tmp 40, .tmp 45]) rfl ?_); at_builtin; refine Kd.N_append (Kd.slice 42 k42) (w0 := w) w.heap.size rfl (.tmp 40) (.tmp 45) 22 31 (.slice none 0 0) 24 rfl Try.underlying22 info31 rfl (by decide) (by omega) v239 y238 (rd_L4 l0 x6_1) [.slice A241_0 (rd_L4 l0 x6_1).length c241_0] (fun k_ => (P0_ k_ ∨ w.heap.size ≤ k_)) (fun k_ => ((fun k_ => (P0_ k_ ∨ w.heap.size ≤ k_))) k_ ∧ some k_ ≠ (v239 : Value).ownBlock) rfl rfl ?aP (fun _ hk => hk) ?aF ?aO ?aB ?aS ?aL ?_; (case aP => exact (Kd.FK_slice_mk (Kd.V_reads' (Kd.V_mono (ok' := (fun k_ => ((fun k_ => (P0_ k_ ∨ w.heap.size ≤ k_))) k_ ∧ some k_ ≠ (v239 : Value).ownBlock)) (HL241_0.out) (fun k_ hk => ⟨hk.1.1, hk.2⟩))).2.1 (Kd.V_F (Kd.V_mono (ok' := (fun k_ => ((fun k_ => (P0_ k_ ∨ w.heap.size ≤ k_))) k_ ∧ some k_ ≠ (v239 : Value).ownBlock)) (HL241_0.out) (fun k_ hk => ⟨hk.1.1, hk.2⟩))))); (case aB => exact (by repeat (first | (with_reducible first | exact HB.out | apply below_alloc | apply pw_below_drewN | apply below_drew1) | exact HB.out))); (case aF => exact (fun k_ hk => (.inr (Nat.le_trans (below_size (by repeat (first | (with_reducible first | exact HB.out | apply below_alloc | apply pw_below_drewN | apply below_drew1) | exact HB.out))) hk)))); (case aO => exact (by (with_reducible repeat (first | apply Kd.N_alloc | apply Kd.N_drewN | apply Kd.N_drew)); exact HO240.out)); (case aS => exact (below_size (by repeat (first | (with_reducible first | exact HB.out | apply below_alloc | apply pw_below_drewN | apply below_drew1) | exact HB.out)))); (case aL => have := LMc34.out; omega); intro v243 w40 ho hb hg hat; rw [← Ny242.out] at ho; have n0_ := Aside0.mk (Kd.V_afterv (ok := (fun k_ => (P0_ k_ ∨ w.heap.size ≤ k_) ∧ some k_ ≠ (.slice Ao4 x5_1.length co4 : Value).ownBlock)) (by (with_reducible repeat (first | apply Kd.V_alloc | apply Kd.V_drewN | apply Kd.V_drew)); exact HO_0.out) hg hat); have n1_ := Aside0.mk (Kd.N_afterv (ok := (fun k_ => (P0_ k_ ∨ w.heap.size ≤ k_))) (by (with_reducible repeat (first | apply Kd.N_alloc | apply Kd.N_drewN | apply Kd.N_drew)); exact HO_5.out) hg hat); have n2_ := Aside0.mk (Kd.V_afterv (ok := (fun k_ => (P0_ k_ ∨ w.heap.size ≤ k_))) (by (with_reducible repeat (first | apply Kd.V_alloc | apply Kd.V_drewN | apply Kd.V_drew)); exact HO237.out) hg hat); have n3_ := Aside0.mk (Kd.V_afterv (ok := (fun k_ => (P0_ k_ ∨ w.heap.size ≤ k_) ∧ some k_ ≠ (.slice Ao4 x5_1.length co4 : Value).ownBlock)) (by (with_reducible repeat (first | apply Kd.V_alloc | apply Kd.V_drewN | apply Kd.V_drew)); exact HL241_0.out) hg hat); have n4_ := Aside0.mk (hb); have n5_ := Aside0.mk (ho); clear HO_0; clear HO_5; clear HO237; clear HL241_0; clear HB; clear HO240; have HO_0 := n0_; have HO_5 := n1_; have HO237 := n2_; have HL241_0 := n3_; have HB := n4_; have HO244 := n5_; clear n0_ n1_ n2_ n3_ n4_ n5_; clear ho hb hg hat; have q41 : (x7_2 : Int) ≤ ((x5_1.length : Int) : Int) := of_decide_eq_true (by first | (with_reducible assumption) | assumption); obtain ⟨i041, hi041, _, hsz41, _⟩ := info_parts info31; have hroom41 : x5_1.length ≤ co4 := (Kd.N_reads' HO_5.out).2.1; have hC41 : Kd.F (Kd.slice 42 k42) _ _ Ao4 x5_1.length x5_1 := (Kd.V_at (base := w.heap.size) (Kd.N_V HO_5.out)).2.2; have q041 : (0 : Int) ≤ (x7_2 : Int) := of_decide_eq_true (by first | (with_reducible assumption) | assumption); have hcut41 := cut_from (P := Try.prog) 22 31 .i64 Try.underlying22 hi041 1 hsz41 Ao4 x5_1.length co4 x7_2 q041 q41; have hr41 := Kd.F_cut (m := (x7_2 : Int).toNat) (c := co4) hC41 (by omega) hroom41; obtain ⟨A41, hA41⟩ : ∃ A1, A1 = (if co4 = (x7_2 : Int).toNat then Ao4 else (Ao4 : Option Addr).map (·.add ((x7_2 : Int).toNat * 1))) := ⟨_, rfl⟩; obtain ⟨c41, hc41⟩ : ∃ c1, c1 = co4 - (x7_2 : Int).toNat := ⟨_, rfl⟩; have hy41 : y245.length = x5_1.length - (x7_2 : Int).toNat := (by rw [Ny245.out, List.length_drop] <;> omega); rw [show (x5_1).drop (x7_2 : Int).toNat = y245 from Ny245.out.symm] at hr41; replace hr41 : Kd.F (Kd.slice 42 k42) _ _ A41 y245.length y245 := (by rw [hA41]; exact hr41); rw [← hy41, ← hA41, ← hc41] at hcut41; have HO249 := Aside0.mk (show Kd.V (Kd.slice 42 k42) 31 _ w.heap.size _ (.slice A41 y245.length c41) y245 from Kd.V_mk (by rw [hy41, hc41]; exact Nat.sub_le_sub_right hroom41 _) hr41); have HC249 := Aside0.mk (show y245.length ≤ c41 from by rw [hy41, hc41]; exact Nat.sub_le_sub_right hroom41 _); clear hr41 hC41 hroom41 hi041 hsz41 hc41; have KY41 := Aside0.mk hy41; have KA41 := Aside0.mk hA41; clear hy41 hA41; replace q41 := eq_true q41) | ((with_reducible refine gate_builtin (b := .append) (xs := #[.tmp 47, .tmp 50]) rfl ?_); at_builtin; refine Kd.N_append_rows (Kd.slice 42 k42) (w0 := w) w.heap.size rfl (.tmp 47) (.tmp 50) 22 31 (.slice none 0 0) 24 rfl Try.underlying22 info31 rfl (by decide) (by omega) v243 y242 y245 _ _ _ (fun k_ => (P0_ k_ ∨ w.heap.size ≤ k_)) (fun k_ => ((fun k_ => (P0_ k_ ∨ w.heap.size ≤ k_))) k_ ∧ some k_ ≠ (v243 : Value).ownBlock) rfl rfl ?aO ?aR (fun _ hk => hk) ?aF ?aB ?aS ?aL ?_; (case aR => exact (by skip; exact Kd.V_F (Kd.V_mono (ok' := (fun k_ => ((fun k_ => (P0_ k_ ∨ w.heap.size ≤ k_))) k_ ∧ some k_ ≠ (v243 : Value).ownBlock)) (HO249.out) (fun k_ hk => ⟨hk.1, hk.2⟩)))); (case aB => exact (by repeat (first | (with_reducible first | exact HB.out | apply below_alloc | apply pw_below_drewN | apply below_drew1) | exact HB.out))); (case aF => exact (fun k_ hk => (.inr (Nat.le_trans (below_size (by repeat (first | (with_reducible first | exact HB.out | apply below_alloc | apply pw_below_drewN | apply below_drew1) | exact HB.out))) hk)))); (case aO => exact (by (with_reducible repeat (first | apply Kd.N_alloc | apply Kd.N_drewN | apply Kd.N_drew)); exact HO244.out)); (case aS => exact (below_size (by repeat (first | (with_reducible first | exact HB.out | apply below_alloc | apply pw_below_drewN | apply below_drew1) | exact HB.out)))); (case aL => have := LMc37.out; omega); intro v251 w42 ho hb hg hat; rw [← Ny250.out] at ho; have n0_ := Aside0.mk (Kd.V_afterv (ok := (fun k_ => (P0_ k_ ∨ w.heap.size ≤ k_) ∧ some k_ ≠ (.slice Ao4 x5_1.length co4 : Value).ownBlock)) (by (with_reducible repeat (first | apply Kd.V_alloc | apply Kd.V_drewN | apply Kd.V_drew)); exact HO_0.out) hg hat); have n1_ := Aside0.mk (Kd.N_afterv (ok := (fun k_ => (P0_ k_ ∨ w.heap.size ≤ k_))) (by (with_reducible repeat (first | apply Kd.N_alloc | apply Kd.N_drewN | apply Kd.N_drew)); exact HO_5.out) hg hat); have n2_ := Aside0.mk (Kd.V_afterv (ok := (fun k_ => (P0_ k_ ∨ w.heap.size ≤ k_))) (by (with_reducible repeat (first | apply Kd.V_alloc | apply Kd.V_drewN | apply Kd.V_drew)); exact HO237.out) hg hat); have n3_ := Aside0.mk (Kd.V_afterv (ok := (fun k_ => (P0_ k_ ∨ w.heap.size ≤ k_) ∧ some k_ ≠ (.slice Ao4 x5_1.length co4 : Value).ownBlock)) (by (with_reducible repeat (first | apply Kd.V_alloc | apply Kd.V_drewN | apply Kd.V_drew)); exact HL241_0.out) hg hat); have n4_ := Aside0.mk (Kd.V_afterv (ok := (fun k_ => (P0_ k_ ∨ w.heap.size ≤ k_))) (by (with_reducible repeat (first | apply Kd.V_alloc | apply Kd.V_drewN | apply Kd.V_drew)); exact HO249.out) hg hat); have n5_ := Aside0.mk (hb); have n6_ := Aside0.mk (ho); clear HO_0; clear HO_5; clear HO237; clear HL241_0; clear HO249; clear HB; clear HO244; have HO_0 := n0_; have HO_5 := n1_; have HO237 := n2_; have HL241_0 := n3_; have HO249 := n4_; have HB := n5_; have HO252 := n6_; clear n0_ n1_ n2_ n3_ n4_ n5_ n6_; clear ho hb hg hat))
                            go_roundg k2
                            case measure => have := HK1.out; have := HK2.out; omega
                            case rel => exact ⟨(y250), (wrap64 (x6_1 + 1)), (by first | rfl | (simp; done) | (simp [*]; done)), H', ⟨by have := HK1.out; have := HK2.out; omega⟩, ⟨by (with_reducible repeat (first | apply Kd.V_alloc | apply Kd.V_drewN | apply Kd.V_drew)); exact Kd.V_mono HO_0.out (fun _ hk => ⟨hk.1.1, hk.2⟩)⟩, ⟨by (with_reducible repeat (first | apply Kd.N_alloc | apply Kd.N_drewN | apply Kd.N_drew)); exact HO252.out⟩, ⟨by repeat (first | (with_reducible first | exact HB.out | apply below_alloc | apply pw_below_drewN | apply below_drew1) | exact HB.out)⟩⟩
                          · rw [if_neg c37] at H
                            exact absurd H (by simp)
                        · rw [if_neg c34] at H
                          exact absurd H (by simp)
                      · rw [if_neg c33] at H
                        exact absurd H (by simp)
                    · rw [if_neg c32] at H
                      exact absurd H (by simp)
                  · rw [if_neg c31] at H
                    exact absurd H (by simp)
                · rw [if_neg c30] at H
                  exact absurd H (by simp)
              · rw [if_neg c29] at H
                exact absurd H (by simp)
      · rw [if_neg c3] at H
        have c3b0 : decide (x6_1 < (l0.length : Int)) = false := decide_eq_false c3
        clear c3
        obtain rfl := Option.some.inj H
        go_wp2
        go_ret
        exact ⟨_, by first | rfl | (simp [errW_none, errW_some] <;> rfl) | (simp [*, errW_none, errW_some] <;> rfl), by (with_reducible repeat (first | apply Kd.N_alloc | apply Kd.N_drewN | apply Kd.N_drew)); exact HO_5.out, by repeat (first | (with_reducible first | exact HB.out | apply below_alloc | apply pw_below_drewN | apply below_drew1) | exact HB.out)⟩

end Go.Proofs.Ytghblnldokpceaa.QV
/- Sorting rows, plain: the order that is asked for; the reference's Sort. -/
namespace Go.Proofs.Ytghblnldokpceaa.QV
open Go.RowKit Go.Proofs.YtghblnldokpceaaW.PrintWords Go.Proofs.Ytghblnldokpceaa.Op Go.Proofs.Ytghblnldokpceaa.Stab
set_option linter.unusedVariables false
set_option linter.unusedSimpArgs false
/-- A total order of which some may be equal. -/
structure Pre {α : Type} (f : α → α → Int) : Prop where
  swap : ∀ x y, f x y < 0 ↔ 0 < f y x
  trans : ∀ x y z, f x y ≤ 0 → f y z ≤ 0 → f x z ≤ 0
theorem Pre.le {α : Type} {f : α → α → Int} (h : Pre f) (x y : α) : f x y ≤ 0 ↔ 0 ≤ f y x := by
  have := h.swap x y; have := h.swap y x; omega
theorem Pre.lt_le {α : Type} {f : α → α → Int} (h : Pre f) {x y z : α} (a : f x y < 0) (b : f y z ≤ 0) : f x z < 0 := by
  have h1 := h.trans x y z; have h2 := h.trans y z x; have e1 := h.swap x y; have e2 := h.swap x z; have e3 := h.swap z x; have e4 := h.swap y x
  omega
theorem Pre.le_lt {α : Type} {f : α → α → Int} (h : Pre f) {x y z : α} (a : f x y ≤ 0) (b : f y z < 0) : f x z < 0 := by
  have h1 := h.trans x y z; have h2 := h.trans z x y; have e1 := h.swap y z; have e2 := h.swap x z; have e3 := h.swap z x; have e4 := h.swap z y
  omega
theorem Pre.neg {α : Type} {f : α → α → Int} (h : Pre f) : Pre (fun x y => -f x y) :=
  ⟨fun x y => by have := h.swap x y; have := h.swap y x; omega, fun x y z a b => by
    have h1 := (h.le y x).2 (by omega)
    have h2 := (h.le z y).2 (by omega)
    have h3 := h.trans z y x h2 h1
    have := (h.le z x).1 h3
    omega⟩
theorem Pre.on {α β : Type} {f : β → β → Int} (h : Pre f) (k : α → β) : Pre (fun x y => f (k x) (k y)) := ⟨fun x y => h.swap _ _, fun x y z => h.trans _ _ _⟩
abbrev Ord : Type := S77
/-- R is xs, sorted: equals as they stood. -/
def Sorts {α : Type} (z : α) (f : α → α → Int) (xs R : List α) : Prop := ∃ S : List Nat, S.Perm (List.range xs.length) ∧ S.Pairwise (Lt (fun i j => f (xs.getD i z) (xs.getD j z))) ∧ R = S.map (fun i => xs.getD i z)
theorem Pre.ok {α : Type} {f : α → α → Int} (h : Pre f) (z : α) (xs : List α) : CmpOk (fun i j => f (xs.getD i z) (xs.getD j z)) := ⟨fun x y => h.swap _ _, fun x y w => h.trans _ _ _⟩
theorem Sorts.len {α : Type} {z : α} {f : α → α → Int} {xs R : List α} (a : Sorts z f xs R) : R.length = xs.length := by
  obtain ⟨S, h1, h2, h3⟩ := a
  rw [h3, List.length_map, h1.length_eq, List.length_range]
theorem map_range {α : Type} (z : α) (xs : List α) : (List.range xs.length).map (fun i => xs.getD i z) = xs := by
  refine List.ext_getElem (by simp) (fun i h1 h2 => ?_)
  simp [List.getD_eq_getElem?_getD, List.getElem?_eq_getElem h2]
theorem Sorts.perm {α : Type} {z : α} {f : α → α → Int} {xs R : List α} (a : Sorts z f xs R) : R.Perm xs := by
  obtain ⟨S, h1, h2, h3⟩ := a
  have := h1.map (fun i => xs.getD i z)
  rw [map_range] at this
  rw [h3]; exact this
theorem Sorts.sorted {α : Type} {z : α} {f : α → α → Int} {xs R : List α} (a : Sorts z f xs R) : R.Pairwise (fun x y => f x y ≤ 0) := by
  obtain ⟨S, h1, h2, h3⟩ := a
  rw [h3, List.pairwise_map]
  refine h2.imp (fun h => ?_)
  rcases h with h | ⟨h, _⟩
  · exact Int.le_of_lt h
  · exact Int.le_of_eq h
/-- Of a list sorted so, one more behind. -/
theorem Sorts.snoc {α : Type} {z : α} {f : α → α → Int} (h : Pre f) {xs : List α} {x : α} {u v : List α} (a : Sorts z f xs (u ++ v)) (hv : ∀ y ∈ v, f x y < 0) (hu : ∀ y ∈ u, ¬ f x y < 0) : Sorts z f (xs ++ [x]) (u ++ x :: v) := by
  obtain ⟨S, h1, h2, h3⟩ := a
  obtain ⟨Su, Sv, rfl, hSu, hSv⟩ : ∃ Su Sv, S = Su ++ Sv ∧ u = Su.map (fun i => xs.getD i z) ∧ v = Sv.map (fun i => xs.getD i z) := by
    refine ⟨S.take u.length, S.drop u.length, (List.take_append_drop _ _).symm, ?_, ?_⟩
    · rw [List.map_take, ← h3]; simp
    · rw [List.map_drop, ← h3]; simp
  have hlt : ∀ i ∈ Su ++ Sv, i < xs.length := fun i hi => List.mem_range.1 (h1.mem_iff.1 hi)
  have hg : ∀ i, i < xs.length → (xs ++ [x]).getD i z = xs.getD i z := fun i hi => by
    rw [List.getD_eq_getElem?_getD, List.getD_eq_getElem?_getD, List.getElem?_append_left hi]
  have hx : (xs ++ [x]).getD xs.length z = x := by simp [List.getD_eq_getElem?_getD]
  have hmu : Su.map (fun i => (xs ++ [x]).getD i z) = u := by
    rw [hSu]
    exact List.map_congr_left (fun i hi => hg i (hlt i (by simp [hi])))
  have hmv : Sv.map (fun i => (xs ++ [x]).getD i z) = v := by
    rw [hSv]
    exact List.map_congr_left (fun i hi => hg i (hlt i (by simp [hi])))
  refine ⟨Su ++ xs.length :: Sv, ?_, ?_, ?_⟩
  · rw [List.length_append, List.length_singleton, List.range_succ]
    exact List.perm_middle.trans ((List.Perm.cons _ h1).trans (List.perm_append_singleton _ _).symm)
  · have hp : ∀ i j, i ∈ Su ++ Sv → j ∈ Su ++ Sv → Lt (fun i j => f (xs.getD i z) (xs.getD j z)) i j → Lt (fun i j => f ((xs ++ [x]).getD i z) ((xs ++ [x]).getD j z)) i j := fun i j hi hj hl => by
      show f ((xs ++ [x]).getD i z) ((xs ++ [x]).getD j z) < 0 ∨ (f ((xs ++ [x]).getD i z) ((xs ++ [x]).getD j z) = 0 ∧ i < j)
      rw [hg i (hlt i hi), hg j (hlt j hj)]
      exact hl
    have h2' := List.pairwise_append.1 h2
    refine List.pairwise_append.2 ⟨?_, List.pairwise_cons.2 ⟨?_, ?_⟩, ?_⟩
    · exact h2'.1.imp_of_mem (fun hi hj hl => hp _ _ (by simp [hi]) (by simp [hj]) hl)
    · intro j hj
      refine .inl ?_
      show f _ _ < 0
      rw [hx, hg j (hlt j (by simp [hj]))]
      exact hv _ (by rw [hSv]; exact List.mem_map_of_mem hj)
    · exact h2'.2.1.imp_of_mem (fun hi hj hl => hp _ _ (by simp [hi]) (by simp [hj]) hl)
    · intro i hi j hj
      rcases List.mem_cons.1 hj with hj | hj
      · subst hj
        refine Lt.of_not (h.ok z (xs ++ [x])) (hlt i (by simp [hi])) ?_
        show ¬ f _ _ < 0
        rw [hx, hg i (hlt i (by simp [hi]))]
        exact hu _ (by rw [hSu]; exact List.mem_map_of_mem hi)
      · exact hp _ _ (by simp [hi]) (by simp [hj]) (h2'.2.2 i hi j hj)
  · rw [List.map_append, List.map_cons, hmu, hmv, hx]
theorem Sorts.nil {α : Type} (z : α) (f : α → α → Int) : Sorts z f [] [] := ⟨[], by simp, by simp, rfl⟩
end Go.Proofs.Ytghblnldokpceaa.QV
/- Printed by mp.py (this session's) with the kit's print: plain functions with the answers of the Go code, and the proofs of it. -/
namespace Go.Proofs.Ytghblnldokpceaa.QV
open Go.RowKit Go.Proofs.YtghblnldokpceaaW.PrintWords Go.Proofs.YtghblnldokpceaaW.PrintLast Go.Proofs.YtghblnldokpceaaW.PrintMore
attribute [local go_sem] max2_int min2_int max_two min_two max_three min_three max_four min_four   -- for this text's walks alone
set_option linter.unusedVariables false
set_option linter.unusedSimpArgs false

attribute [local go_sem high] eqA83
/-! ### hayloftref15_Rejoin: function 29 -/
mutual
def hayloftref15_Rejoin.l0 : Nat → List (S85) → List (S85) → List (S85) → Int → Option ((List (S85)))
  | 0, _, _, _, _ => none
  | k + 1, x0, x1, x5, x6 => if x6 < (x0.length : Int) then (hayloftref15_Rejoin.l1 k x0 x1 x5 x6 0) else (some x5)
def hayloftref15_Rejoin.l1 : Nat → List (S85) → List (S85) → List (S85) → Int → Int → Option ((List (S85)))
  | 0, _, _, _, _, _ => none
  | k + 1, x0, x1, x5, x6, x7 => if x7 < (x1.length : Int) then (if 0 ≤ x7 then (if 0 ≤ x6 then (if x6 < (x0.length : Int) then (if (((rd_T85 x1 x7).f0.f0) == ((rd_T85 x0 x6).f0.f0) && (((rd_T85 x1 x7).f0.f1) == ((rd_T85 x0 x6).f0.f1))) = true then ((hayloftref15_Joined.f ((rd_T85 x0 x6).f1) ((rd_T85 x1 x7).f1)).bind fun t258 => (if x5.length < 2932031007402 then (hayloftref15_Rejoin.l0 k x0 x1 (x5 ++ [(⟨(⟨(rd_T85 x0 x6).f0.f0, (rd_T85 x0 x6).f0.f1⟩ : S83), t258, (rd_T85 x0 x6).f2⟩ : S85)]) (wrap64 (x6 + 1))) else (none))) else (hayloftref15_Rejoin.l1 k x0 x1 x5 x6 (wrap64 (x7 + 1)))) else (none)) else (none)) else (none)) else (hayloftref15_Rejoin.l0 k x0 x1 x5 (wrap64 (x6 + 1)))
end
def hayloftref15_Rejoin.f (k : Nat) (l0 : List (S85)) (l1 : List (S85)) : Option ((List (S85))) := hayloftref15_Rejoin.l0 k l0 l1 ([] : List (S85)) 0
theorem hayloftref15_Rejoin.mono_l : ∀ k, (∀ y0 y1 y2 y3, LeO (hayloftref15_Rejoin.l0 k y0 y1 y2 y3) (hayloftref15_Rejoin.l0 (k + 1) y0 y1 y2 y3)) ∧ (∀ y0 y1 y2 y3 y4, LeO (hayloftref15_Rejoin.l1 k y0 y1 y2 y3 y4) (hayloftref15_Rejoin.l1 (k + 1) y0 y1 y2 y3 y4))
  | 0 => ⟨fun _ _ _ _ r h => by simp [hayloftref15_Rejoin.l0] at h, fun _ _ _ _ _ r h => by simp [hayloftref15_Rejoin.l1] at h⟩
  | k + 1 => by
    obtain ⟨ih0, ih1⟩ := hayloftref15_Rejoin.mono_l k
    refine ⟨?_, ?_⟩
    · intro y0 y1 y2 y3
      unfold hayloftref15_Rejoin.l0
      repeat' first
      | (with_reducible exact ih0 _ _ _ _)
      | (with_reducible exact ih1 _ _ _ _ _)
      | (with_reducible exact LeO.refl _)
      | (with_reducible exact LeO.none _)
      | (with_reducible refine LeO.ite ?_ ?_)
      | (with_reducible refine LeO.bind ?_ (fun _ => ?_))
      | exact ih0 _ _ _ _
      | exact ih1 _ _ _ _ _
      | exact LeO.none _
      | refine LeO.ite ?_ ?_
      | refine LeO.bind ?_ (fun _ => ?_)
    · intro y0 y1 y2 y3 y4
      unfold hayloftref15_Rejoin.l1
      repeat' first
      | (with_reducible exact ih0 _ _ _ _)
      | (with_reducible exact ih1 _ _ _ _ _)
      | (with_reducible exact LeO.refl _)
      | (with_reducible exact LeO.none _)
      | (with_reducible refine LeO.ite ?_ ?_)
      | (with_reducible refine LeO.bind ?_ (fun _ => ?_))
      | exact ih0 _ _ _ _
      | exact ih1 _ _ _ _ _
      | exact LeO.none _
      | refine LeO.ite ?_ ?_
      | refine LeO.bind ?_ (fun _ => ?_)
theorem hayloftref15_Rejoin.mono : ∀ a0 a1 k, LeO (hayloftref15_Rejoin.f k a0 a1) (hayloftref15_Rejoin.f (k + 1) a0 a1) := by
  intro a0 a1 k
  obtain ⟨ih0, ih1⟩ := hayloftref15_Rejoin.mono_l k
  unfold hayloftref15_Rejoin.f
  repeat' first
      | (with_reducible exact ih0 _ _ _ _)
      | (with_reducible exact ih1 _ _ _ _ _)
      | (with_reducible exact LeO.refl _)
      | (with_reducible exact LeO.none _)
      | (with_reducible refine LeO.ite ?_ ?_)
      | (with_reducible refine LeO.bind ?_ (fun _ => ?_))
      | exact ih0 _ _ _ _
      | exact ih1 _ _ _ _ _
      | exact LeO.none _
      | refine LeO.ite ?_ ?_
      | refine LeO.bind ?_ (fun _ => ?_)
def hayloftref15_Rejoin.T8 : Bool × List (List Nat × List Nat) := (true, [([], []), ([], []), ([0, 1], [0, 1]), ([2], [2]), ([3], [3]), ([], []), ([], []), ([5, 6], [5, 6]), ([7], [7]), ([8], [8]), ([4, 9], [4, 9])])
def hayloftref15_Rejoin.B8 : List Nat := [0, 0, 3, 7, 15, 0, 0, 96, 224, 480, 1023]
theorem hayloftref15_Rejoin.tab8 : rtab .any (opsOf Try.f29 8) = hayloftref15_Rejoin.T8 := by kernel_rfl
theorem hayloftref15_Rejoin.bits8 : waitsOk hayloftref15_Rejoin.T8.2 hayloftref15_Rejoin.B8 = true := by kernel_rfl
def hayloftref15_Rejoin.T9 : Bool × List (List Nat × List Nat) := (true, [([], []), ([], []), ([], []), ([1, 2], [1, 2]), ([3], [3]), ([4], [4]), ([], []), ([], []), ([6, 7], [6, 7]), ([8], [8]), ([9], [9]), ([], []), ([], []), ([11, 12], [11, 12]), ([13], [13]), ([14], [14]), ([10, 15], [10, 15]), ([], []), ([], []), ([17, 18], [17, 18]), ([19], [19]), ([20], [20]), ([5, 16, 21], [5, 16, 21]), ([22], [22]), ([0, 23, 16], [0, 23]), ([24, 24, 0, 1, 2, 3, 4, 5, 6, 7, 8, 9, 10, 11, 12, 13, 14, 15, 16, 17, 18, 19, 20, 21, 22, 23, 24], [0, 24])])
def hayloftref15_Rejoin.B9 : List Nat := [0, 0, 0, 6, 14, 30, 0, 0, 192, 448, 960, 0, 0, 6144, 14336, 30720, 65472, 0, 0, 393216, 917504, 1966080, 4194302, 8388606, 16777215, 33554431]
theorem hayloftref15_Rejoin.tab9 : rtab .any (opsOf Try.f29 9) = hayloftref15_Rejoin.T9 := by kernel_rfl
theorem hayloftref15_Rejoin.bits9 : waitsOk hayloftref15_Rejoin.T9.2 hayloftref15_Rejoin.B9 = true := by kernel_rfl
set_option maxHeartbeats 8000000 in
set_option maxRecDepth 100000 in
theorem hayloftref15_Rejoin.calls (k : Nat) (A0 : Option Addr) (c0 : Nat) (l0 : List (S85)) (A1 : Option Addr) (c1 : Nat) (l1 : List (S85)) (r : List (S85)) (w : World) (hr0 : Kd.C k85 w A0 l0.length l0) (hc0 : l0.length ≤ c0) (hr1 : Kd.C k85 w A1 l1.length l1) (hc1 : l1.length ≤ c1) (h : hayloftref15_Rejoin.f k l0 l1 = some r) :
    Calls Try.prog 29 #[.slice A0 l0.length c0, .slice A1 l1.length c1] w fun e w' => ∃ v0_ : Value, e = .returned (v0_) ∧ Kd.S k85 85 w' w.heap.size (fun _ => True) v0_ r ∧ Below w.heap.size w w' := by
  have hu83 := Try.underlying83
  have hu85 := Try.underlying85
  have HR0 := Aside0.mk hr0
  have HC0 := Aside0.mk hc0
  clear hr0 hc0
  have HR1 := Aside0.mk hr1
  have HC1 := Aside0.mk hc1
  clear hr1 hc1
  have HB := Aside0.mk (Below.refl w.heap.size w)
  have H : (hayloftref15_Rejoin.l0 k l0 l1 ([] : List (S85)) 0) = some r := h
  clear h
  have H' := Aside0.mk H
  clear H
  go_enter Try.func29, Try.ntmps29
  go_wp2
  go_loopg [5, 6] k (fun kq v5 v6 w' => ∃ (x5_1 : List (S85)) (x6_1 : Int), v6 = .int .i64 x6_1 ∧ Aside0 (hayloftref15_Rejoin.l0 kq l0 l1 x5_1 x6_1 = some r) ∧ Aside0 (kq ≤ k) ∧ Aside0 (Kd.S k85 85 w' w.heap.size (fun _ => True) v5 x5_1) ∧ Aside0 (Below w.heap.size w w'))
  case atStart => exact ⟨(([] : List (S85))), (0), (by first | rfl | (simp; done) | (simp [*]; done)), H', ⟨Nat.le_refl _⟩, ⟨by first | exact Kd.S_nil _ _ _ _ _ | exact Kd.N_nil _ _ _ _ _ | exact Kd.V_nil _ _ _ _ _ | exact Kd.Q_nil _ _ _ _ _ | exact Kd.R_nil _ _ _ _ _⟩, ⟨by repeat (first | (with_reducible first | exact HB.out | apply below_alloc | apply pw_below_drewN | apply below_drew1) | exact HB.out)⟩⟩
  case round =>
    clear H'
    try clear c1
    try clear c2
    try clear p2
    obtain ⟨x5_1, x6_1, rfl, HA, HK1, HO_5, HB⟩ := hrel
    cases gk with
    | zero => exact absurd HA.out (by simp [hayloftref15_Rejoin.l0])
    | succ k1 =>
      have H := HA.out
      clear HA
      simp only [hayloftref15_Rejoin.l0] at H
      by_cases c3 : x6_1 < (l0.length : Int)
      · rw [if_pos c3] at H
        have c3b0 : decide (x6_1 < (l0.length : Int)) = true := decide_eq_true c3
        clear c3
        have H' := Aside0.mk H
        clear H
        go_wp2
        go_loopg [5, 7] k1 (fun kq v5 v7 w' => ∃ (x5_2 : List (S85)) (x7_2 : Int), v7 = .int .i64 x7_2 ∧ Aside0 (hayloftref15_Rejoin.l1 kq l0 l1 x5_2 x6_1 x7_2 = some r) ∧ Aside0 (kq ≤ k1) ∧ Aside0 (Kd.S k85 85 w' w.heap.size (fun _ => True) v5 x5_2) ∧ Aside0 (Below w.heap.size w w'))
        case atStart => exact ⟨(x5_1), (0), (by first | rfl | (simp; done) | (simp [*]; done)), H', ⟨Nat.le_refl _⟩, ⟨by (with_reducible repeat (first | apply Kd.S_alloc | apply Kd.S_drewN | apply Kd.S_drew)); exact HO_5.out⟩, ⟨by repeat (first | (with_reducible first | exact HB.out | apply below_alloc | apply pw_below_drewN | apply below_drew1) | exact HB.out)⟩⟩
        case round =>
          clear H'
          try clear c1
          try clear c2
          try clear p2
          try clear c3
          try clear c3b0
          try clear p2
          obtain ⟨x5_2, x7_2, rfl, HA, HK2, HO_5, HB⟩ := hrel
          cases gk with
          | zero => exact absurd HA.out (by simp [hayloftref15_Rejoin.l1])
          | succ k2 =>
            have H := HA.out
            clear HA
            simp only [hayloftref15_Rejoin.l1] at H
            by_cases c4 : x7_2 < (l1.length : Int)
            · rw [if_pos c4] at H
              have c4b0 : decide (x7_2 < (l1.length : Int)) = true := decide_eq_true c4
              clear c4
              by_cases c5 : 0 ≤ x7_2
              · rw [if_pos c5] at H
                have c5b0 : decide (0 ≤ x7_2) = true := decide_eq_true c5
                clear c5
                by_cases c6 : 0 ≤ x6_1
                · rw [if_pos c6] at H
                  have c6b0 : decide (0 ≤ x6_1) = true := decide_eq_true c6
                  clear c6
                  by_cases c7 : x6_1 < (l0.length : Int)
                  · rw [if_pos c7] at H
                    have c7b0 : decide (x6_1 < (l0.length : Int)) = true := decide_eq_true c7
                    clear c7
                    by_cases c8 : (((rd_T85 l1 x7_2).f0.f0) == ((rd_T85 l0 x6_1).f0.f0) && (((rd_T85 l1 x7_2).f0.f1) == ((rd_T85 l0 x6_1).f0.f1))) = true
                    · rw [if_pos c8] at H
                      have c8b0 : (((rd_T85 l1 x7_2).f0.f0) == ((rd_T85 l0 x6_1).f0.f0) && (((rd_T85 l1 x7_2).f0.f1) == ((rd_T85 l0 x6_1).f0.f1))) = true := c8
                      (try (have c8b1 : decide (((rd_T85 l1 x7_2).f0.f0) = ((rd_T85 l0 x6_1).f0.f0) && (((rd_T85 l1 x7_2).f0.f1) == ((rd_T85 l0 x6_1).f0.f1))) = true := by simpa using c8))
                      (try (have c8b2 : (((rd_T85 l1 x7_2).f0.f0) == ((rd_T85 l0 x6_1).f0.f0) && (((rd_T85 l1 x7_2).f0.f1) == ((rd_T85 l0 x6_1).f0.f1))) = true := by simpa using c8))
                      clear c8
                      replace H := Option.bind_eq_some_iff.mp H
                      obtain ⟨t258, A90, H⟩ := H
                      replace H : (if x5_2.length < 2932031007402 then (hayloftref15_Rejoin.l0 k2 l0 l1 (x5_2 ++ [(⟨(⟨(rd_T85 l0 x6_1).f0.f0, (rd_T85 l0 x6_1).f0.f1⟩ : S83), t258, (rd_T85 l0 x6_1).f2⟩ : S85)]) (wrap64 (x6_1 + 1))) else (none)) = some r := H
                      have A9 := Aside0.mk A90
                      clear A90
                      by_cases c10 : x5_2.length < 2932031007402
                      · rw [if_pos c10] at H
                        have LMc10 := Aside0.mk c10
                        clear c10
                        obtain ⟨y262, hy262⟩ : ∃ y_ : List (S85), y_ = (x5_2 ++ [(⟨(⟨(rd_T85 l0 x6_1).f0.f0, (rd_T85 l0 x6_1).f0.f1⟩ : S83), t258, (rd_T85 l0 x6_1).f2⟩ : S85)]) := ⟨_, rfl⟩
                        replace H : (hayloftref15_Rejoin.l0 k2 l0 l1 y262 (wrap64 (x6_1 + 1))) = some r := by first | (rw [hy262]; with_reducible exact H) | (have H2_ := (Option.bind_some _ _).symm.trans H; rw [hy262]; with_reducible exact H2_) | (have H2_ := (Option.bind_some _ _).symm.trans H; with_reducible exact H2_) | with_reducible exact H | (rw [hy262]; exact H) | exact H
                        have Ny262 := Aside0.mk hy262
                        clear hy262
                        have H' := Aside0.mk H
                        clear H
                        try go_wp2
                        have n0_ := Aside0.mk (Kd.S_drew HO_5.out)
                        have n1_ := Aside0.mk (below_drew1 HB.out)
                        clear HO_5
                        clear HB
                        have HO_5 := n0_
                        have HB := n1_
                        clear n0_ n1_
                        have p253 : 0 ≤ (x7_2 : Int) := of_decide_eq_true (by first | (with_reducible assumption) | assumption)
                        have q253 : x7_2 < (l1.length : Int) := of_decide_eq_true (by first | (with_reducible assumption) | assumption)
                        obtain ⟨ad253, A253_2, c253_2, e253, hx253_0, hx253_1, hx253_2, hx253_3, hl253_2, hi253_2⟩ := at_T85 HR1.out x7_2 p253 q253
                        have hw253_3 := hx253_3
                        have hw253_2 := hx253_2
                        have hw253_1 := hx253_1
                        have hw253_0 := hx253_0
                        cases e253
                        replace hx253_0 := (HB.out.cell (World.block_lt_of_cell? w _ hx253_0)).trans hx253_0
                        replace hx253_1 := (HB.out.cell (World.block_lt_of_cell? w _ hx253_1)).trans hx253_1
                        replace hx253_2 := (HB.out.cell (World.block_lt_of_cell? w _ hx253_2)).trans hx253_2
                        replace hx253_3 := (HB.out.cell (World.block_lt_of_cell? w _ hx253_3)).trans hx253_3
                        have HR253_2 := Aside0.mk hi253_2
                        have HC253_2 := Aside0.mk hl253_2
                        clear hi253_2 hl253_2
                        replace p253 := eq_true p253
                        replace q253 := eq_true q253
                        have p254 : 0 ≤ (x6_1 : Int) := of_decide_eq_true (by first | (with_reducible assumption) | assumption)
                        have q254 : x6_1 < (l0.length : Int) := of_decide_eq_true (by first | (with_reducible assumption) | assumption)
                        obtain ⟨ad254, A254_2, c254_2, e254, hx254_0, hx254_1, hx254_2, hx254_3, hl254_2, hi254_2⟩ := at_T85 HR0.out x6_1 p254 q254
                        have hw254_3 := hx254_3
                        have hw254_2 := hx254_2
                        have hw254_1 := hx254_1
                        have hw254_0 := hx254_0
                        cases e254
                        replace hx254_0 := (HB.out.cell (World.block_lt_of_cell? w _ hx254_0)).trans hx254_0
                        replace hx254_1 := (HB.out.cell (World.block_lt_of_cell? w _ hx254_1)).trans hx254_1
                        replace hx254_2 := (HB.out.cell (World.block_lt_of_cell? w _ hx254_2)).trans hx254_2
                        replace hx254_3 := (HB.out.cell (World.block_lt_of_cell? w _ hx254_3)).trans hx254_3
                        have HR254_2 := Aside0.mk hi254_2
                        have HC254_2 := Aside0.mk hl254_2
                        clear hi254_2 hl254_2
                        replace p254 := eq_true p254
                        replace q254 := eq_true q254
                        refine start_ (n := 11) (S := fun w' => w'.cell? (ad253.add ((x7_2).toNat * 4)) = some (.int .u64 ((rd_T85 l1 x7_2).f0.f0)) ∧ w'.cell? ⟨(ad253.add ((x7_2).toNat * 4)).block, (ad253.add ((x7_2).toNat * 4)).off + 1, none⟩ = some (.int .u32 ((rd_T85 l1 x7_2).f0.f1)) ∧ w'.cell? ⟨(ad253.add ((x7_2).toNat * 4)).block, (ad253.add ((x7_2).toNat * 4)).off + 2, none⟩ = some (.slice A253_2 ((rd_T85 l1 x7_2).f1).length c253_2) ∧ w'.cell? ⟨(ad253.add ((x7_2).toNat * 4)).block, (ad253.add ((x7_2).toNat * 4)).off + 3, none⟩ = some (.int .u64 ((rd_T85 l1 x7_2).f2)) ∧ w'.cell? (ad254.add ((x6_1).toNat * 4)) = some (.int .u64 ((rd_T85 l0 x6_1).f0.f0)) ∧ w'.cell? ⟨(ad254.add ((x6_1).toNat * 4)).block, (ad254.add ((x6_1).toNat * 4)).off + 1, none⟩ = some (.int .u32 ((rd_T85 l0 x6_1).f0.f1)) ∧ w'.cell? ⟨(ad254.add ((x6_1).toNat * 4)).block, (ad254.add ((x6_1).toNat * 4)).off + 2, none⟩ = some (.slice A254_2 ((rd_T85 l0 x6_1).f1).length c254_2) ∧ w'.cell? ⟨(ad254.add ((x6_1).toNat * 4)).block, (ad254.add ((x6_1).toNat * 4)).off + 3, none⟩ = some (.int .u64 ((rd_T85 l0 x6_1).f2))) (ds := []) #[false, false, false, false, false, false, false, false, false, false, false] (by kernel_rfl) rfl rfl ⟨((HB.out.cell (World.block_lt_of_cell? w _ hw253_0)).trans hw253_0), ((HB.out.cell (World.block_lt_of_cell? w _ hw253_1)).trans hw253_1), ((HB.out.cell (World.block_lt_of_cell? w _ hw253_2)).trans hw253_2), ((HB.out.cell (World.block_lt_of_cell? w _ hw253_3)).trans hw253_3), ((HB.out.cell (World.block_lt_of_cell? w _ hw254_0)).trans hw254_0), ((HB.out.cell (World.block_lt_of_cell? w _ hw254_1)).trans hw254_1), ((HB.out.cell (World.block_lt_of_cell? w _ hw254_2)).trans hw254_2), ((HB.out.cell (World.block_lt_of_cell? w _ hw254_3)).trans hw254_3)⟩ (fun hHeld => ?_); refine with_tabW hayloftref15_Rejoin.tab8 hayloftref15_Rejoin.bits8 (fun HT_ HW_ => ?_)
                        generalize wr.drew = w11 at HO_5 HB HR253_2 HR254_2 hx253_0 hx253_1 hx253_2 hx253_3 hx254_0 hx254_1 hx254_2 hx254_3 hHeld ⊢
                        refine pure_ (i := 0) (N := some 20) (v := ?_) (a' := ?_) #[true, false, false, false, false, false, false, false, false, false, false] rfl rfl (any_of HT_.out (by kernel_rfl)) (fun _ _ _ h => h) (Or.inl ⟨by rfl, ?_⟩) ?_ ?_
                        rotate_left
                        · intro w'
                          go_simp
                          with_reducible rfl
                        rotate_left
                        · simp only [Act.put, List.setIfInBounds_toArray, List.set_cons_zero, List.set_cons_succ, i64_w, i32_w]
                          rfl
                        refine pure_ (i := 1) (N := some 21) (v := ?_) (a' := ?_) #[true, true, false, false, false, false, false, false, false, false, false] rfl rfl (any_of HT_.out (by kernel_rfl)) (fun _ _ _ h => h) (Or.inl ⟨by rfl, ?_⟩) ?_ ?_
                        rotate_left
                        · intro w'
                          go_simp
                          with_reducible rfl
                        rotate_left
                        · simp only [Act.put, List.setIfInBounds_toArray, List.set_cons_zero, List.set_cons_succ, i64_w, i32_w]
                          rfl
                        refine pure_ (i := 2) (N := some 22) (v := ?_) (a' := ?_) #[true, true, true, false, false, false, false, false, false, false, false] rfl rfl (any_of HT_.out (by kernel_rfl)) (fun _ _ _ h => h) (Or.inl ⟨by rfl, ?_⟩) ?_ ?_
                        rotate_left
                        · intro w'
                          go_simp
                          with_reducible rfl
                        rotate_left
                        · simp only [Act.put, List.setIfInBounds_toArray, List.set_cons_zero, List.set_cons_succ, i64_w, i32_w]
                          rfl
                        refine pure_ (i := 3) (N := some 23) (v := ?_) (a' := ?_) #[true, true, true, true, false, false, false, false, false, false, false] rfl rfl (any_of HT_.out (by kernel_rfl)) (fun _ _ _ h => h) (Or.inl ⟨by rfl, ?_⟩) ?_ ?_
                        rotate_left
                        · intro w'
                          go_simp
                          with_reducible rfl
                        rotate_left
                        · simp only [Act.put, List.setIfInBounds_toArray, List.set_cons_zero, List.set_cons_succ, i64_w, i32_w]
                          rfl
                        refine pure_ (i := 5) (N := some 25) (v := ?_) (a' := ?_) #[true, true, true, true, false, true, false, false, false, false, false] rfl rfl (any_of HT_.out (by kernel_rfl)) (fun _ _ _ h => h) (Or.inl ⟨by rfl, ?_⟩) ?_ ?_
                        rotate_left
                        · intro w'
                          go_simp
                          with_reducible rfl
                        rotate_left
                        · simp only [Act.put, List.setIfInBounds_toArray, List.set_cons_zero, List.set_cons_succ, i64_w, i32_w]
                          rfl
                        refine pure_ (i := 6) (N := some 26) (v := ?_) (a' := ?_) #[true, true, true, true, false, true, true, false, false, false, false] rfl rfl (any_of HT_.out (by kernel_rfl)) (fun _ _ _ h => h) (Or.inl ⟨by rfl, ?_⟩) ?_ ?_
                        rotate_left
                        · intro w'
                          go_simp
                          with_reducible rfl
                        rotate_left
                        · simp only [Act.put, List.setIfInBounds_toArray, List.set_cons_zero, List.set_cons_succ, i64_w, i32_w]
                          rfl
                        refine pure_ (i := 7) (N := some 27) (v := ?_) (a' := ?_) #[true, true, true, true, false, true, true, true, false, false, false] rfl rfl (any_of HT_.out (by kernel_rfl)) (fun _ _ _ h => h) (Or.inl ⟨by rfl, ?_⟩) ?_ ?_
                        rotate_left
                        · intro w'
                          go_simp
                          with_reducible rfl
                        rotate_left
                        · simp only [Act.put, List.setIfInBounds_toArray, List.set_cons_zero, List.set_cons_succ, i64_w, i32_w]
                          rfl
                        refine pure_ (i := 8) (N := some 28) (v := ?_) (a' := ?_) #[true, true, true, true, false, true, true, true, true, false, false] rfl rfl (any_of HT_.out (by kernel_rfl)) (fun _ _ _ h => h) (Or.inl ⟨by rfl, ?_⟩) ?_ ?_
                        rotate_left
                        · intro w'
                          go_simp
                          with_reducible rfl
                        rotate_left
                        · simp only [Act.put, List.setIfInBounds_toArray, List.set_cons_zero, List.set_cons_succ, i64_w, i32_w]
                          rfl
                        refine take_ (i := 4) (N := some 24) (v := ?_) (a' := ?_) #[true, true, true, true, true, true, true, true, true, false, false] rfl rfl (take_ofW HT_.out HW_.out (by kernel_rfl)) (fun _ _ _ h => h) (Or.inl ⟨by rfl, ?_⟩) hHeld ?_ ?_
                        rotate_left
                        · rintro w' ⟨s0, s1, s2, s3, s4, s5, s6, s7⟩
                          go_simp
                          with_reducible rfl
                        rotate_left
                        · simp only [Act.put, List.setIfInBounds_toArray, List.set_cons_zero, List.set_cons_succ, i64_w, i32_w]
                          rfl
                        refine take_ (i := 9) (N := some 29) (v := ?_) (a' := ?_) #[true, true, true, true, true, true, true, true, true, true, false] rfl rfl (take_ofW HT_.out HW_.out (by kernel_rfl)) (fun _ _ _ h => h) (Or.inl ⟨by rfl, ?_⟩) hHeld ?_ ?_
                        rotate_left
                        · rintro w' ⟨s0, s1, s2, s3, s4, s5, s6, s7⟩
                          go_simp
                          with_reducible rfl
                        rotate_left
                        · simp only [Act.put, List.setIfInBounds_toArray, List.set_cons_zero, List.set_cons_succ, i64_w, i32_w]
                          rfl
                        refine pure_ (i := 10) (N := some 30) (v := ?_) (a' := ?_) #[true, true, true, true, true, true, true, true, true, true, true] rfl rfl (any_of HT_.out (by kernel_rfl)) (fun _ _ _ h => h) (Or.inl ⟨by rfl, ?_⟩) ?_ ?_
                        rotate_left
                        · intro w'
                          go_simp
                          with_reducible rfl
                        rotate_left
                        · simp only [Act.put, List.setIfInBounds_toArray, List.set_cons_zero, List.set_cons_succ, i64_w, i32_w]
                          rfl
                        refine done_ (done_of HT_.out (by kernel_rfl)) ?_
                        try go_wp2
                        have n0_ := Aside0.mk (Kd.S_drew HO_5.out)
                        have n1_ := Aside0.mk (below_drew1 HB.out)
                        clear HO_5
                        clear HB
                        have HO_5 := n0_
                        have HB := n1_
                        clear n0_ n1_
                        have p255 : 0 ≤ (x6_1 : Int) := of_decide_eq_true (by first | (with_reducible assumption) | assumption)
                        have q255 : x6_1 < (l0.length : Int) := of_decide_eq_true (by first | (with_reducible assumption) | assumption)
                        obtain ⟨ad255, A255_2, c255_2, e255, hx255_0, hx255_1, hx255_2, hx255_3, hl255_2, hi255_2⟩ := at_T85 HR0.out x6_1 p255 q255
                        have hw255_3 := hx255_3
                        have hw255_2 := hx255_2
                        have hw255_1 := hx255_1
                        have hw255_0 := hx255_0
                        obtain rfl : ad254 = ad255 := (by injection e255)
                        replace hx255_0 := (HB.out.cell (World.block_lt_of_cell? w _ hx255_0)).trans hx255_0
                        replace hx255_1 := (HB.out.cell (World.block_lt_of_cell? w _ hx255_1)).trans hx255_1
                        replace hx255_2 := (HB.out.cell (World.block_lt_of_cell? w _ hx255_2)).trans hx255_2
                        replace hx255_3 := (HB.out.cell (World.block_lt_of_cell? w _ hx255_3)).trans hx255_3
                        have HR255_2 := Aside0.mk hi255_2
                        have HC255_2 := Aside0.mk hl255_2
                        clear hi255_2 hl255_2
                        replace p255 := eq_true p255
                        replace q255 := eq_true q255
                        have p256 : 0 ≤ (x6_1 : Int) := of_decide_eq_true (by first | (with_reducible assumption) | assumption)
                        have q256 : x6_1 < (l0.length : Int) := of_decide_eq_true (by first | (with_reducible assumption) | assumption)
                        obtain ⟨ad256, A256_2, c256_2, e256, hx256_0, hx256_1, hx256_2, hx256_3, hl256_2, hi256_2⟩ := at_T85 HR0.out x6_1 p256 q256
                        have hw256_3 := hx256_3
                        have hw256_2 := hx256_2
                        have hw256_1 := hx256_1
                        have hw256_0 := hx256_0
                        obtain rfl : ad254 = ad256 := (by injection e256)
                        replace hx256_0 := (HB.out.cell (World.block_lt_of_cell? w _ hx256_0)).trans hx256_0
                        replace hx256_1 := (HB.out.cell (World.block_lt_of_cell? w _ hx256_1)).trans hx256_1
                        replace hx256_2 := (HB.out.cell (World.block_lt_of_cell? w _ hx256_2)).trans hx256_2
                        replace hx256_3 := (HB.out.cell (World.block_lt_of_cell? w _ hx256_3)).trans hx256_3
                        have HR256_2 := Aside0.mk hi256_2
                        have HC256_2 := Aside0.mk hl256_2
                        clear hi256_2 hl256_2
                        replace p256 := eq_true p256
                        replace q256 := eq_true q256
                        have ea_ := Option.some.inj (hx255_2.symm.trans hx256_2)
                        injection ea_ with ea_ en_ ec_
                        subst ea_
                        subst ec_
                        clear en_
                        have p257 : 0 ≤ (x7_2 : Int) := of_decide_eq_true (by first | (with_reducible assumption) | assumption)
                        have q257 : x7_2 < (l1.length : Int) := of_decide_eq_true (by first | (with_reducible assumption) | assumption)
                        obtain ⟨ad257, A257_2, c257_2, e257, hx257_0, hx257_1, hx257_2, hx257_3, hl257_2, hi257_2⟩ := at_T85 HR1.out x7_2 p257 q257
                        have hw257_3 := hx257_3
                        have hw257_2 := hx257_2
                        have hw257_1 := hx257_1
                        have hw257_0 := hx257_0
                        obtain rfl : ad253 = ad257 := (by injection e257)
                        replace hx257_0 := (HB.out.cell (World.block_lt_of_cell? w _ hx257_0)).trans hx257_0
                        replace hx257_1 := (HB.out.cell (World.block_lt_of_cell? w _ hx257_1)).trans hx257_1
                        replace hx257_2 := (HB.out.cell (World.block_lt_of_cell? w _ hx257_2)).trans hx257_2
                        replace hx257_3 := (HB.out.cell (World.block_lt_of_cell? w _ hx257_3)).trans hx257_3
                        have HR257_2 := Aside0.mk hi257_2
                        have HC257_2 := Aside0.mk hl257_2
                        clear hi257_2 hl257_2
                        replace p257 := eq_true p257
                        replace q257 := eq_true q257
                        have p261 : 0 ≤ (x6_1 : Int) := of_decide_eq_true (by first | (with_reducible assumption) | assumption)
                        have q261 : x6_1 < (l0.length : Int) := of_decide_eq_true (by first | (with_reducible assumption) | assumption)
                        obtain ⟨ad261, A261_2, c261_2, e261, hx261_0, hx261_1, hx261_2, hx261_3, hl261_2, hi261_2⟩ := at_T85 HR0.out x6_1 p261 q261
                        have hw261_3 := hx261_3
                        have hw261_2 := hx261_2
                        have hw261_1 := hx261_1
                        have hw261_0 := hx261_0
                        obtain rfl : ad254 = ad261 := (by injection e261)
                        replace hx261_0 := (HB.out.cell (World.block_lt_of_cell? w _ hx261_0)).trans hx261_0
                        replace hx261_1 := (HB.out.cell (World.block_lt_of_cell? w _ hx261_1)).trans hx261_1
                        replace hx261_2 := (HB.out.cell (World.block_lt_of_cell? w _ hx261_2)).trans hx261_2
                        replace hx261_3 := (HB.out.cell (World.block_lt_of_cell? w _ hx261_3)).trans hx261_3
                        have HR261_2 := Aside0.mk hi261_2
                        have HC261_2 := Aside0.mk hl261_2
                        clear hi261_2 hl261_2
                        replace p261 := eq_true p261
                        replace q261 := eq_true q261
                        have ea_ := Option.some.inj (hx255_2.symm.trans hx261_2)
                        injection ea_ with ea_ en_ ec_
                        subst ea_
                        subst ec_
                        clear en_
                        refine start_ (n := 26) (S := fun w' => w'.cell? (ad254.add ((x6_1).toNat * 4)) = some (.int .u64 ((rd_T85 l0 x6_1).f0.f0)) ∧ w'.cell? ⟨(ad254.add ((x6_1).toNat * 4)).block, (ad254.add ((x6_1).toNat * 4)).off + 1, none⟩ = some (.int .u32 ((rd_T85 l0 x6_1).f0.f1)) ∧ w'.cell? ⟨(ad254.add ((x6_1).toNat * 4)).block, (ad254.add ((x6_1).toNat * 4)).off + 2, none⟩ = some (.slice A255_2 ((rd_T85 l0 x6_1).f1).length c255_2) ∧ w'.cell? ⟨(ad254.add ((x6_1).toNat * 4)).block, (ad254.add ((x6_1).toNat * 4)).off + 3, none⟩ = some (.int .u64 ((rd_T85 l0 x6_1).f2)) ∧ w'.cell? (ad254.add ((x6_1).toNat * 4)) = some (.int .u64 ((rd_T85 l0 x6_1).f0.f0)) ∧ w'.cell? ⟨(ad254.add ((x6_1).toNat * 4)).block, (ad254.add ((x6_1).toNat * 4)).off + 1, none⟩ = some (.int .u32 ((rd_T85 l0 x6_1).f0.f1)) ∧ w'.cell? ⟨(ad254.add ((x6_1).toNat * 4)).block, (ad254.add ((x6_1).toNat * 4)).off + 2, none⟩ = some (.slice A255_2 ((rd_T85 l0 x6_1).f1).length c255_2) ∧ w'.cell? ⟨(ad254.add ((x6_1).toNat * 4)).block, (ad254.add ((x6_1).toNat * 4)).off + 3, none⟩ = some (.int .u64 ((rd_T85 l0 x6_1).f2)) ∧ w'.cell? (ad253.add ((x7_2).toNat * 4)) = some (.int .u64 ((rd_T85 l1 x7_2).f0.f0)) ∧ w'.cell? ⟨(ad253.add ((x7_2).toNat * 4)).block, (ad253.add ((x7_2).toNat * 4)).off + 1, none⟩ = some (.int .u32 ((rd_T85 l1 x7_2).f0.f1)) ∧ w'.cell? ⟨(ad253.add ((x7_2).toNat * 4)).block, (ad253.add ((x7_2).toNat * 4)).off + 2, none⟩ = some (.slice A257_2 ((rd_T85 l1 x7_2).f1).length c257_2) ∧ w'.cell? ⟨(ad253.add ((x7_2).toNat * 4)).block, (ad253.add ((x7_2).toNat * 4)).off + 3, none⟩ = some (.int .u64 ((rd_T85 l1 x7_2).f2)) ∧ w'.cell? (ad254.add ((x6_1).toNat * 4)) = some (.int .u64 ((rd_T85 l0 x6_1).f0.f0)) ∧ w'.cell? ⟨(ad254.add ((x6_1).toNat * 4)).block, (ad254.add ((x6_1).toNat * 4)).off + 1, none⟩ = some (.int .u32 ((rd_T85 l0 x6_1).f0.f1)) ∧ w'.cell? ⟨(ad254.add ((x6_1).toNat * 4)).block, (ad254.add ((x6_1).toNat * 4)).off + 2, none⟩ = some (.slice A255_2 ((rd_T85 l0 x6_1).f1).length c255_2) ∧ w'.cell? ⟨(ad254.add ((x6_1).toNat * 4)).block, (ad254.add ((x6_1).toNat * 4)).off + 3, none⟩ = some (.int .u64 ((rd_T85 l0 x6_1).f2))) (ds := []) #[false, false, false, false, false, false, false, false, false, false, false, false, false, false, false, false, false, false, false, false, false, false, false, false, false, false] (by kernel_rfl) rfl rfl ⟨((HB.out.cell (World.block_lt_of_cell? w _ hw255_0)).trans hw255_0), ((HB.out.cell (World.block_lt_of_cell? w _ hw255_1)).trans hw255_1), ((HB.out.cell (World.block_lt_of_cell? w _ hw255_2)).trans hw255_2), ((HB.out.cell (World.block_lt_of_cell? w _ hw255_3)).trans hw255_3), ((HB.out.cell (World.block_lt_of_cell? w _ hw256_0)).trans hw256_0), ((HB.out.cell (World.block_lt_of_cell? w _ hw256_1)).trans hw256_1), ((HB.out.cell (World.block_lt_of_cell? w _ hw256_2)).trans hw256_2), ((HB.out.cell (World.block_lt_of_cell? w _ hw256_3)).trans hw256_3), ((HB.out.cell (World.block_lt_of_cell? w _ hw257_0)).trans hw257_0), ((HB.out.cell (World.block_lt_of_cell? w _ hw257_1)).trans hw257_1), ((HB.out.cell (World.block_lt_of_cell? w _ hw257_2)).trans hw257_2), ((HB.out.cell (World.block_lt_of_cell? w _ hw257_3)).trans hw257_3), ((HB.out.cell (World.block_lt_of_cell? w _ hw261_0)).trans hw261_0), ((HB.out.cell (World.block_lt_of_cell? w _ hw261_1)).trans hw261_1), ((HB.out.cell (World.block_lt_of_cell? w _ hw261_2)).trans hw261_2), ((HB.out.cell (World.block_lt_of_cell? w _ hw261_3)).trans hw261_3)⟩ (fun hHeld => ?_); refine with_tabW hayloftref15_Rejoin.tab9 hayloftref15_Rejoin.bits9 (fun HT_ HW_ => ?_)
                        generalize w11.drew = w12 at HO_5 HB HR255_2 HR256_2 HR257_2 HR261_2 hx255_0 hx255_1 hx255_2 hx255_3 hx256_0 hx256_1 hx256_2 hx256_3 hx257_0 hx257_1 hx257_2 hx257_3 hx261_0 hx261_1 hx261_2 hx261_3 hHeld ⊢
                        refine pure_ (i := 0) (N := some 31) (v := ?_) (a' := ?_) #[true, false, false, false, false, false, false, false, false, false, false, false, false, false, false, false, false, false, false, false, false, false, false, false, false, false] rfl rfl (any_of HT_.out (by kernel_rfl)) (fun _ _ _ h => h) (Or.inl ⟨by rfl, ?_⟩) ?_ ?_
                        rotate_left
                        · intro w'
                          go_simp
                          with_reducible rfl
                        rotate_left
                        · simp only [Act.put, List.setIfInBounds_toArray, List.set_cons_zero, List.set_cons_succ, i64_w, i32_w]
                          rfl
                        refine pure_ (i := 1) (N := some 32) (v := ?_) (a' := ?_) #[true, true, false, false, false, false, false, false, false, false, false, false, false, false, false, false, false, false, false, false, false, false, false, false, false, false] rfl rfl (any_of HT_.out (by kernel_rfl)) (fun _ _ _ h => h) (Or.inl ⟨by rfl, ?_⟩) ?_ ?_
                        rotate_left
                        · intro w'
                          go_simp
                          with_reducible rfl
                        rotate_left
                        · simp only [Act.put, List.setIfInBounds_toArray, List.set_cons_zero, List.set_cons_succ, i64_w, i32_w]
                          rfl
                        refine pure_ (i := 2) (N := some 33) (v := ?_) (a' := ?_) #[true, true, true, false, false, false, false, false, false, false, false, false, false, false, false, false, false, false, false, false, false, false, false, false, false, false] rfl rfl (any_of HT_.out (by kernel_rfl)) (fun _ _ _ h => h) (Or.inl ⟨by rfl, ?_⟩) ?_ ?_
                        rotate_left
                        · intro w'
                          go_simp
                          with_reducible rfl
                        rotate_left
                        · simp only [Act.put, List.setIfInBounds_toArray, List.set_cons_zero, List.set_cons_succ, i64_w, i32_w]
                          rfl
                        refine pure_ (i := 3) (N := some 34) (v := ?_) (a' := ?_) #[true, true, true, true, false, false, false, false, false, false, false, false, false, false, false, false, false, false, false, false, false, false, false, false, false, false] rfl rfl (any_of HT_.out (by kernel_rfl)) (fun _ _ _ h => h) (Or.inl ⟨by rfl, ?_⟩) ?_ ?_
                        rotate_left
                        · intro w'
                          go_simp
                          with_reducible rfl
                        rotate_left
                        · simp only [Act.put, List.setIfInBounds_toArray, List.set_cons_zero, List.set_cons_succ, i64_w, i32_w]
                          rfl
                        refine pure_ (i := 4) (N := some 35) (v := ?_) (a' := ?_) #[true, true, true, true, true, false, false, false, false, false, false, false, false, false, false, false, false, false, false, false, false, false, false, false, false, false] rfl rfl (any_of HT_.out (by kernel_rfl)) (fun _ _ _ h => h) (Or.inl ⟨by rfl, ?_⟩) ?_ ?_
                        rotate_left
                        · intro w'
                          go_simp
                          with_reducible rfl
                        rotate_left
                        · simp only [Act.put, List.setIfInBounds_toArray, List.set_cons_zero, List.set_cons_succ, i64_w, i32_w]
                          rfl
                        refine pure_ (i := 6) (N := some 37) (v := ?_) (a' := ?_) #[true, true, true, true, true, false, true, false, false, false, false, false, false, false, false, false, false, false, false, false, false, false, false, false, false, false] rfl rfl (any_of HT_.out (by kernel_rfl)) (fun _ _ _ h => h) (Or.inl ⟨by rfl, ?_⟩) ?_ ?_
                        rotate_left
                        · intro w'
                          go_simp
                          with_reducible rfl
                        rotate_left
                        · simp only [Act.put, List.setIfInBounds_toArray, List.set_cons_zero, List.set_cons_succ, i64_w, i32_w]
                          rfl
                        refine pure_ (i := 7) (N := some 38) (v := ?_) (a' := ?_) #[true, true, true, true, true, false, true, true, false, false, false, false, false, false, false, false, false, false, false, false, false, false, false, false, false, false] rfl rfl (any_of HT_.out (by kernel_rfl)) (fun _ _ _ h => h) (Or.inl ⟨by rfl, ?_⟩) ?_ ?_
                        rotate_left
                        · intro w'
                          go_simp
                          with_reducible rfl
                        rotate_left
                        · simp only [Act.put, List.setIfInBounds_toArray, List.set_cons_zero, List.set_cons_succ, i64_w, i32_w]
                          rfl
                        refine pure_ (i := 8) (N := some 39) (v := ?_) (a' := ?_) #[true, true, true, true, true, false, true, true, true, false, false, false, false, false, false, false, false, false, false, false, false, false, false, false, false, false] rfl rfl (any_of HT_.out (by kernel_rfl)) (fun _ _ _ h => h) (Or.inl ⟨by rfl, ?_⟩) ?_ ?_
                        rotate_left
                        · intro w'
                          go_simp
                          with_reducible rfl
                        rotate_left
                        · simp only [Act.put, List.setIfInBounds_toArray, List.set_cons_zero, List.set_cons_succ, i64_w, i32_w]
                          rfl
                        refine pure_ (i := 9) (N := some 40) (v := ?_) (a' := ?_) #[true, true, true, true, true, false, true, true, true, true, false, false, false, false, false, false, false, false, false, false, false, false, false, false, false, false] rfl rfl (any_of HT_.out (by kernel_rfl)) (fun _ _ _ h => h) (Or.inl ⟨by rfl, ?_⟩) ?_ ?_
                        rotate_left
                        · intro w'
                          go_simp
                          with_reducible rfl
                        rotate_left
                        · simp only [Act.put, List.setIfInBounds_toArray, List.set_cons_zero, List.set_cons_succ, i64_w, i32_w]
                          rfl
                        refine pure_ (i := 11) (N := some 42) (v := ?_) (a' := ?_) #[true, true, true, true, true, false, true, true, true, true, false, true, false, false, false, false, false, false, false, false, false, false, false, false, false, false] rfl rfl (any_of HT_.out (by kernel_rfl)) (fun _ _ _ h => h) (Or.inl ⟨by rfl, ?_⟩) ?_ ?_
                        rotate_left
                        · intro w'
                          go_simp
                          with_reducible rfl
                        rotate_left
                        · simp only [Act.put, List.setIfInBounds_toArray, List.set_cons_zero, List.set_cons_succ, i64_w, i32_w]
                          rfl
                        refine pure_ (i := 12) (N := some 43) (v := ?_) (a' := ?_) #[true, true, true, true, true, false, true, true, true, true, false, true, true, false, false, false, false, false, false, false, false, false, false, false, false, false] rfl rfl (any_of HT_.out (by kernel_rfl)) (fun _ _ _ h => h) (Or.inl ⟨by rfl, ?_⟩) ?_ ?_
                        rotate_left
                        · intro w'
                          go_simp
                          with_reducible rfl
                        rotate_left
                        · simp only [Act.put, List.setIfInBounds_toArray, List.set_cons_zero, List.set_cons_succ, i64_w, i32_w]
                          rfl
                        refine pure_ (i := 13) (N := some 44) (v := ?_) (a' := ?_) #[true, true, true, true, true, false, true, true, true, true, false, true, true, true, false, false, false, false, false, false, false, false, false, false, false, false] rfl rfl (any_of HT_.out (by kernel_rfl)) (fun _ _ _ h => h) (Or.inl ⟨by rfl, ?_⟩) ?_ ?_
                        rotate_left
                        · intro w'
                          go_simp
                          with_reducible rfl
                        rotate_left
                        · simp only [Act.put, List.setIfInBounds_toArray, List.set_cons_zero, List.set_cons_succ, i64_w, i32_w]
                          rfl
                        refine pure_ (i := 14) (N := some 45) (v := ?_) (a' := ?_) #[true, true, true, true, true, false, true, true, true, true, false, true, true, true, true, false, false, false, false, false, false, false, false, false, false, false] rfl rfl (any_of HT_.out (by kernel_rfl)) (fun _ _ _ h => h) (Or.inl ⟨by rfl, ?_⟩) ?_ ?_
                        rotate_left
                        · intro w'
                          go_simp
                          with_reducible rfl
                        rotate_left
                        · simp only [Act.put, List.setIfInBounds_toArray, List.set_cons_zero, List.set_cons_succ, i64_w, i32_w]
                          rfl
                        refine pure_ (i := 17) (N := some 48) (v := ?_) (a' := ?_) #[true, true, true, true, true, false, true, true, true, true, false, true, true, true, true, false, false, true, false, false, false, false, false, false, false, false] rfl rfl (any_of HT_.out (by kernel_rfl)) (fun _ _ _ h => h) (Or.inl ⟨by rfl, ?_⟩) ?_ ?_
                        rotate_left
                        · intro w'
                          go_simp
                          with_reducible rfl
                        rotate_left
                        · simp only [Act.put, List.setIfInBounds_toArray, List.set_cons_zero, List.set_cons_succ, i64_w, i32_w]
                          rfl
                        refine pure_ (i := 18) (N := some 49) (v := ?_) (a' := ?_) #[true, true, true, true, true, false, true, true, true, true, false, true, true, true, true, false, false, true, true, false, false, false, false, false, false, false] rfl rfl (any_of HT_.out (by kernel_rfl)) (fun _ _ _ h => h) (Or.inl ⟨by rfl, ?_⟩) ?_ ?_
                        rotate_left
                        · intro w'
                          go_simp
                          with_reducible rfl
                        rotate_left
                        · simp only [Act.put, List.setIfInBounds_toArray, List.set_cons_zero, List.set_cons_succ, i64_w, i32_w]
                          rfl
                        refine pure_ (i := 19) (N := some 50) (v := ?_) (a' := ?_) #[true, true, true, true, true, false, true, true, true, true, false, true, true, true, true, false, false, true, true, true, false, false, false, false, false, false] rfl rfl (any_of HT_.out (by kernel_rfl)) (fun _ _ _ h => h) (Or.inl ⟨by rfl, ?_⟩) ?_ ?_
                        rotate_left
                        · intro w'
                          go_simp
                          with_reducible rfl
                        rotate_left
                        · simp only [Act.put, List.setIfInBounds_toArray, List.set_cons_zero, List.set_cons_succ, i64_w, i32_w]
                          rfl
                        refine pure_ (i := 20) (N := some 51) (v := ?_) (a' := ?_) #[true, true, true, true, true, false, true, true, true, true, false, true, true, true, true, false, false, true, true, true, true, false, false, false, false, false] rfl rfl (any_of HT_.out (by kernel_rfl)) (fun _ _ _ h => h) (Or.inl ⟨by rfl, ?_⟩) ?_ ?_
                        rotate_left
                        · intro w'
                          go_simp
                          with_reducible rfl
                        rotate_left
                        · simp only [Act.put, List.setIfInBounds_toArray, List.set_cons_zero, List.set_cons_succ, i64_w, i32_w]
                          rfl
                        refine take_ (i := 5) (N := some 36) (v := ?_) (a' := ?_) #[true, true, true, true, true, true, true, true, true, true, false, true, true, true, true, false, false, true, true, true, true, false, false, false, false, false] rfl rfl (take_ofW HT_.out HW_.out (by kernel_rfl)) (fun _ _ _ h => h) (Or.inl ⟨by rfl, ?_⟩) hHeld ?_ ?_
                        rotate_left
                        · rintro w' ⟨s0, s1, s2, s3, s4, s5, s6, s7, s8, s9, s10, s11, s12, s13, s14, s15⟩
                          go_simp
                          with_reducible rfl
                        rotate_left
                        · simp only [Act.put, List.setIfInBounds_toArray, List.set_cons_zero, List.set_cons_succ, i64_w, i32_w]
                          rfl
                        refine take_ (i := 10) (N := some 41) (v := ?_) (a' := ?_) #[true, true, true, true, true, true, true, true, true, true, true, true, true, true, true, false, false, true, true, true, true, false, false, false, false, false] rfl rfl (take_ofW HT_.out HW_.out (by kernel_rfl)) (fun _ _ _ h => h) (Or.inl ⟨by rfl, ?_⟩) hHeld ?_ ?_
                        rotate_left
                        · rintro w' ⟨s0, s1, s2, s3, s4, s5, s6, s7, s8, s9, s10, s11, s12, s13, s14, s15⟩
                          go_simp
                          with_reducible rfl
                        rotate_left
                        · simp only [Act.put, List.setIfInBounds_toArray, List.set_cons_zero, List.set_cons_succ, i64_w, i32_w]
                          rfl
                        refine take_ (i := 15) (N := some 46) (v := ?_) (a' := ?_) #[true, true, true, true, true, true, true, true, true, true, true, true, true, true, true, true, false, true, true, true, true, false, false, false, false, false] rfl rfl (take_ofW HT_.out HW_.out (by kernel_rfl)) (fun _ _ _ h => h) (Or.inl ⟨by rfl, ?_⟩) hHeld ?_ ?_
                        rotate_left
                        · rintro w' ⟨s0, s1, s2, s3, s4, s5, s6, s7, s8, s9, s10, s11, s12, s13, s14, s15⟩
                          go_simp
                          with_reducible rfl
                        rotate_left
                        · simp only [Act.put, List.setIfInBounds_toArray, List.set_cons_zero, List.set_cons_succ, i64_w, i32_w]
                          rfl
                        refine take_ (i := 21) (N := some 52) (v := ?_) (a' := ?_) #[true, true, true, true, true, true, true, true, true, true, true, true, true, true, true, true, false, true, true, true, true, true, false, false, false, false] rfl rfl (take_ofW HT_.out HW_.out (by kernel_rfl)) (fun _ _ _ h => h) (Or.inl ⟨by rfl, ?_⟩) hHeld ?_ ?_
                        rotate_left
                        · rintro w' ⟨s0, s1, s2, s3, s4, s5, s6, s7, s8, s9, s10, s11, s12, s13, s14, s15⟩
                          go_simp
                          with_reducible rfl
                        rotate_left
                        · simp only [Act.put, List.setIfInBounds_toArray, List.set_cons_zero, List.set_cons_succ, i64_w, i32_w]
                          rfl
                        refine one_ (i := 16) (N := some 47) #[true, true, true, true, true, true, true, true, true, true, true, true, true, true, true, true, true, true, true, true, true, true, false, false, false, false] rfl rfl (one_of HT_.out (by kernel_rfl)) (by decide) (fun K hK => ?_)
                        refine goes_ Try.func22 (by kernel_rfl) rfl #[.slice A255_2 ((rd_T85 l0 x6_1).f1).length c255_2, .slice A257_2 ((rd_T85 l1 x7_2).f1).length c257_2] (by rfl) rfl rfl (by (try simp only [List.map_toArray, List.map_cons, List.map_nil]); first | done | rfl | (simp only [List.length_drop, List.length_take]; rfl)) ?_
                        with_reducible refine (hayloftref15_Joined.calls _ _ ((rd_T85 l0 x6_1).f1) _ _ ((rd_T85 l1 x7_2).f1) t258 _ ?side1 ?side2 ?side3 ?side4 A9.out).mono ?_
                        (case side1 => repeat (first | exact (Kd.C_below HR256_2.out HB.out) | (with_reducible refine Kd.C_alloc ?_ _) | (with_reducible refine Kd.C_drewN ?_ _) | (with_reducible refine Kd.C_drew ?_)))
                        (case side2 => exact HC256_2.out)
                        (case side3 => repeat (first | exact (Kd.C_below HR257_2.out HB.out) | (with_reducible refine Kd.C_alloc ?_ _) | (with_reducible refine Kd.C_drewN ?_ _) | (with_reducible refine Kd.C_drew ?_)))
                        (case side4 => exact HC257_2.out)
                        rintro e w13 ⟨v259, rfl, ho0, hb⟩
                        refine ⟨_, rfl, ?_⟩
                        have n0_ := Aside0.mk (Kd.S_elder' (by (with_reducible repeat (first | apply Kd.S_alloc | apply Kd.S_drewN | apply Kd.S_drew)); exact HO_5.out) (Kd.R_base ho0) hb)
                        have n1_ := Aside0.mk (Kd.R_lower ho0 (below_size (by repeat (first | (with_reducible first | exact HB.out | apply below_alloc | apply pw_below_drewN | apply below_drew1) | exact HB.out))))
                        have n2_ := Aside0.mk (below_step (by repeat (first | (with_reducible first | exact HB.out | apply below_alloc | apply pw_below_drewN | apply below_drew1) | exact HB.out)) hb)
                        clear HO_5
                        clear HB
                        have HO_5 := n0_
                        have HO260 := n1_
                        have HB := n2_
                        clear n0_ n1_ n2_
                        (try clear hb)
                        (try clear hb2)
                        (try clear hk)
                        (try clear hi)
                        (try clear ho0)
                        obtain ⟨Ao14, co14, eo14⟩ := Kd.R_slice HO260.out
                        (first | subst eo14 | (injection eo14 with f1_ f2_ f3_; have f4_ := f1_.symm; have f5_ := f3_.symm; clear f1_ f2_ f3_; subst f4_; subst f5_))
                        refine hK.out _ _ ⟨((HB.out.cell (World.block_lt_of_cell? w _ hw255_0)).trans hw255_0), ((HB.out.cell (World.block_lt_of_cell? w _ hw255_1)).trans hw255_1), ((HB.out.cell (World.block_lt_of_cell? w _ hw255_2)).trans hw255_2), ((HB.out.cell (World.block_lt_of_cell? w _ hw255_3)).trans hw255_3), ((HB.out.cell (World.block_lt_of_cell? w _ hw256_0)).trans hw256_0), ((HB.out.cell (World.block_lt_of_cell? w _ hw256_1)).trans hw256_1), ((HB.out.cell (World.block_lt_of_cell? w _ hw256_2)).trans hw256_2), ((HB.out.cell (World.block_lt_of_cell? w _ hw256_3)).trans hw256_3), ((HB.out.cell (World.block_lt_of_cell? w _ hw257_0)).trans hw257_0), ((HB.out.cell (World.block_lt_of_cell? w _ hw257_1)).trans hw257_1), ((HB.out.cell (World.block_lt_of_cell? w _ hw257_2)).trans hw257_2), ((HB.out.cell (World.block_lt_of_cell? w _ hw257_3)).trans hw257_3), ((HB.out.cell (World.block_lt_of_cell? w _ hw261_0)).trans hw261_0), ((HB.out.cell (World.block_lt_of_cell? w _ hw261_1)).trans hw261_1), ((HB.out.cell (World.block_lt_of_cell? w _ hw261_2)).trans hw261_2), ((HB.out.cell (World.block_lt_of_cell? w _ hw261_3)).trans hw261_3)⟩ (fun hHeld => ?_)
                        clear hK K
                        refine norm_ (a' := ?_) ?_ ?_
                        rotate_left
                        · show Act.put _ (some 47) _ = _
                          simp only [Act.put, List.setIfInBounds_toArray, List.set_cons_zero, List.set_cons_succ, i64_w, i32_w]
                          rfl
                        refine pure_ (i := 22) (N := some 53) (v := ?_) (a' := ?_) #[true, true, true, true, true, true, true, true, true, true, true, true, true, true, true, true, true, true, true, true, true, true, true, false, false, false] rfl rfl (any_of HT_.out (by kernel_rfl)) (fun _ _ _ h => h) (Or.inl ⟨by rfl, ?_⟩) ?_ ?_
                        rotate_left
                        · intro w'
                          go_simp
                          with_reducible rfl
                        rotate_left
                        · simp only [Act.put, List.setIfInBounds_toArray, List.set_cons_zero, List.set_cons_succ, i64_w, i32_w]
                          rfl
                        refine one_ (i := 23) (N := some 54) #[true, true, true, true, true, true, true, true, true, true, true, true, true, true, true, true, true, true, true, true, true, true, true, true, false, false] rfl rfl (one_of HT_.out (by kernel_rfl)) (by decide) (fun K hK => ?_)
                        refine value_ (w1 := ?_) (v := ?_) (by rfl) rfl ?_ ?_
                        rotate_left 2
                        · go_simp
                          constructor
                          · rfl
                          · rfl
                        refine hK.out _ _ ⟨(World.cell?_alloc_lt _ _ _ (World.block_lt_of_cell? _ _ (((HB.out.cell (World.block_lt_of_cell? w _ hw255_0)).trans hw255_0)))).trans (((HB.out.cell (World.block_lt_of_cell? w _ hw255_0)).trans hw255_0)), (World.cell?_alloc_lt _ _ _ (World.block_lt_of_cell? _ _ (((HB.out.cell (World.block_lt_of_cell? w _ hw255_1)).trans hw255_1)))).trans (((HB.out.cell (World.block_lt_of_cell? w _ hw255_1)).trans hw255_1)), (World.cell?_alloc_lt _ _ _ (World.block_lt_of_cell? _ _ (((HB.out.cell (World.block_lt_of_cell? w _ hw255_2)).trans hw255_2)))).trans (((HB.out.cell (World.block_lt_of_cell? w _ hw255_2)).trans hw255_2)), (World.cell?_alloc_lt _ _ _ (World.block_lt_of_cell? _ _ (((HB.out.cell (World.block_lt_of_cell? w _ hw255_3)).trans hw255_3)))).trans (((HB.out.cell (World.block_lt_of_cell? w _ hw255_3)).trans hw255_3)), (World.cell?_alloc_lt _ _ _ (World.block_lt_of_cell? _ _ (((HB.out.cell (World.block_lt_of_cell? w _ hw256_0)).trans hw256_0)))).trans (((HB.out.cell (World.block_lt_of_cell? w _ hw256_0)).trans hw256_0)), (World.cell?_alloc_lt _ _ _ (World.block_lt_of_cell? _ _ (((HB.out.cell (World.block_lt_of_cell? w _ hw256_1)).trans hw256_1)))).trans (((HB.out.cell (World.block_lt_of_cell? w _ hw256_1)).trans hw256_1)), (World.cell?_alloc_lt _ _ _ (World.block_lt_of_cell? _ _ (((HB.out.cell (World.block_lt_of_cell? w _ hw256_2)).trans hw256_2)))).trans (((HB.out.cell (World.block_lt_of_cell? w _ hw256_2)).trans hw256_2)), (World.cell?_alloc_lt _ _ _ (World.block_lt_of_cell? _ _ (((HB.out.cell (World.block_lt_of_cell? w _ hw256_3)).trans hw256_3)))).trans (((HB.out.cell (World.block_lt_of_cell? w _ hw256_3)).trans hw256_3)), (World.cell?_alloc_lt _ _ _ (World.block_lt_of_cell? _ _ (((HB.out.cell (World.block_lt_of_cell? w _ hw257_0)).trans hw257_0)))).trans (((HB.out.cell (World.block_lt_of_cell? w _ hw257_0)).trans hw257_0)), (World.cell?_alloc_lt _ _ _ (World.block_lt_of_cell? _ _ (((HB.out.cell (World.block_lt_of_cell? w _ hw257_1)).trans hw257_1)))).trans (((HB.out.cell (World.block_lt_of_cell? w _ hw257_1)).trans hw257_1)), (World.cell?_alloc_lt _ _ _ (World.block_lt_of_cell? _ _ (((HB.out.cell (World.block_lt_of_cell? w _ hw257_2)).trans hw257_2)))).trans (((HB.out.cell (World.block_lt_of_cell? w _ hw257_2)).trans hw257_2)), (World.cell?_alloc_lt _ _ _ (World.block_lt_of_cell? _ _ (((HB.out.cell (World.block_lt_of_cell? w _ hw257_3)).trans hw257_3)))).trans (((HB.out.cell (World.block_lt_of_cell? w _ hw257_3)).trans hw257_3)), (World.cell?_alloc_lt _ _ _ (World.block_lt_of_cell? _ _ (((HB.out.cell (World.block_lt_of_cell? w _ hw261_0)).trans hw261_0)))).trans (((HB.out.cell (World.block_lt_of_cell? w _ hw261_0)).trans hw261_0)), (World.cell?_alloc_lt _ _ _ (World.block_lt_of_cell? _ _ (((HB.out.cell (World.block_lt_of_cell? w _ hw261_1)).trans hw261_1)))).trans (((HB.out.cell (World.block_lt_of_cell? w _ hw261_1)).trans hw261_1)), (World.cell?_alloc_lt _ _ _ (World.block_lt_of_cell? _ _ (((HB.out.cell (World.block_lt_of_cell? w _ hw261_2)).trans hw261_2)))).trans (((HB.out.cell (World.block_lt_of_cell? w _ hw261_2)).trans hw261_2)), (World.cell?_alloc_lt _ _ _ (World.block_lt_of_cell? _ _ (((HB.out.cell (World.block_lt_of_cell? w _ hw261_3)).trans hw261_3)))).trans (((HB.out.cell (World.block_lt_of_cell? w _ hw261_3)).trans hw261_3))⟩ (fun hHeld => ?_)
                        clear hK K
                        refine norm_ (a' := ?_) ?_ ?_
                        rotate_left
                        · show Act.put _ (some 54) _ = _
                          simp only [Act.put, List.setIfInBounds_toArray, List.set_cons_zero, List.set_cons_succ, i64_w, i32_w]
                          rfl
                        refine one_ (i := 24) (N := some 55) #[true, true, true, true, true, true, true, true, true, true, true, true, true, true, true, true, true, true, true, true, true, true, true, true, true, false] rfl rfl (one_of HT_.out (by kernel_rfl)) (by decide) (fun K hK => ?_)
                        refine Kd.S_append_step k85 (w0 := w) w.heap.size (by rfl) (.tmp 31) (.tmp 54) 55 85 (.agg #[(.int .u64 0), (.int .u32 0), (.slice none 0 0), (.int .u64 0)]) 48 rfl Try.underlying55 info85 rfl (by decide) (by omega) u5 x5_2 (⟨(⟨(rd_T85 l0 x6_1).f0.f0, (rd_T85 l0 x6_1).f0.f1⟩ : S83), t258, (rd_T85 l0 x6_1).f2⟩ : S85) [.int .u64 ((rd_T85 l0 x6_1).f0.f0), .int .u32 ((rd_T85 l0 x6_1).f0.f1), .slice Ao14 t258.length co14, .int .u64 ((rd_T85 l0 x6_1).f2)] (fun _ => True) (fun k_ => some k_ = (.slice Ao14 t258.length co14 : Value).ownBlock) rfl rfl ?aP (fun k_ hk_ => ((Kd.R_mono (ok' := fun k_ => ((fun _ => True)) k_ ∧ some k_ ≠ (u5 : Value).ownBlock) (Kd.R_apart' (HO260.out) (Kd.S_typed HO_5.out) (by decide)) (fun k_ hk => ⟨trivial, hk.2⟩))).1 k_ hk_.symm) ?aF ?aO ?aB ?aS ?aL ?_
                        (case aP => exact k85_mkM _ _ _ (⟨(⟨(rd_T85 l0 x6_1).f0.f0, (rd_T85 l0 x6_1).f0.f1⟩ : S83), t258, (rd_T85 l0 x6_1).f2⟩ : S85) (Kd.R_mono (Kd.R_tight rfl (Kd.R_mono (ok' := fun k_ => ((fun _ => True)) k_ ∧ some k_ ≠ (u5 : Value).ownBlock) (Kd.R_apart' (HO260.out) (Kd.S_typed HO_5.out) (by decide)) (fun k_ hk => ⟨trivial, hk.2⟩))) (fun _ h_ => h_)))
                        (case aB => exact (by repeat (first | (with_reducible first | exact HB.out | apply below_alloc | apply pw_below_drewN | apply below_drew1) | exact HB.out)))
                        (case aF => exact (fun _ _ => trivial))
                        (case aO => exact (by (with_reducible repeat (first | apply Kd.S_alloc | apply Kd.S_drewN | apply Kd.S_drew)); exact Kd.S_mono HO_5.out (fun k_ hk => ⟨trivial, fun e_ => hk.2 e_⟩)))
                        (case aS => exact (below_size (by repeat (first | (with_reducible first | exact HB.out | apply below_alloc | apply pw_below_drewN | apply below_drew1) | exact HB.out))))
                        (case aL => have := LMc10.out; omega)
                        intro v263 w15 ho hb hg hat
                        rw [← Ny262.out] at ho
                        have n0_ := Aside0.mk (hb)
                        have n1_ := Aside0.mk (ho)
                        clear HB
                        clear HO_5
                        clear HO260
                        have HB := n0_
                        have HO264 := n1_
                        clear n0_ n1_
                        clear ho hb hg hat
                        refine hK.out _ _ ⟨((HB.out.cell (World.block_lt_of_cell? w _ hw255_0)).trans hw255_0), ((HB.out.cell (World.block_lt_of_cell? w _ hw255_1)).trans hw255_1), ((HB.out.cell (World.block_lt_of_cell? w _ hw255_2)).trans hw255_2), ((HB.out.cell (World.block_lt_of_cell? w _ hw255_3)).trans hw255_3), ((HB.out.cell (World.block_lt_of_cell? w _ hw256_0)).trans hw256_0), ((HB.out.cell (World.block_lt_of_cell? w _ hw256_1)).trans hw256_1), ((HB.out.cell (World.block_lt_of_cell? w _ hw256_2)).trans hw256_2), ((HB.out.cell (World.block_lt_of_cell? w _ hw256_3)).trans hw256_3), ((HB.out.cell (World.block_lt_of_cell? w _ hw257_0)).trans hw257_0), ((HB.out.cell (World.block_lt_of_cell? w _ hw257_1)).trans hw257_1), ((HB.out.cell (World.block_lt_of_cell? w _ hw257_2)).trans hw257_2), ((HB.out.cell (World.block_lt_of_cell? w _ hw257_3)).trans hw257_3), ((HB.out.cell (World.block_lt_of_cell? w _ hw261_0)).trans hw261_0), ((HB.out.cell (World.block_lt_of_cell? w _ hw261_1)).trans hw261_1), ((HB.out.cell (World.block_lt_of_cell? w _ hw261_2)).trans hw261_2), ((HB.out.cell (World.block_lt_of_cell? w _ hw261_3)).trans hw261_3)⟩ (fun hHeld => ?_)
                        clear hK K
                        refine norm_ (a' := ?_) ?_ ?_
                        rotate_left
                        · show Act.put _ (some 55) _ = _
                          simp only [Act.put, List.setIfInBounds_toArray, List.set_cons_zero, List.set_cons_succ, i64_w, i32_w]
                          rfl
                        refine pure_ (i := 25) (N := some 5) (v := ?_) (a' := ?_) #[true, true, true, true, true, true, true, true, true, true, true, true, true, true, true, true, true, true, true, true, true, true, true, true, true, true] rfl rfl (any_of HT_.out (by kernel_rfl)) (fun _ _ _ h => h) (Or.inl ⟨by rfl, ?_⟩) ?_ ?_
                        rotate_left
                        · intro w'
                          go_simp
                          with_reducible rfl
                        rotate_left
                        · simp only [Act.put, List.setIfInBounds_toArray, List.set_cons_zero, List.set_cons_succ, i64_w, i32_w]
                          rfl
                        refine done_ (done_of HT_.out (by kernel_rfl)) ?_
                        try go_wp2
                        go_roundg k2
                        case measure => have := HK1.out; have := HK2.out; omega
                        case rel => exact ⟨(y262), (wrap64 (x6_1 + 1)), (by first | rfl | (simp; done) | (simp [*]; done)), H', ⟨by have := HK1.out; have := HK2.out; omega⟩, ⟨by (with_reducible repeat (first | apply Kd.S_alloc | apply Kd.S_drewN | apply Kd.S_drew)); exact HO264.out⟩, ⟨by repeat (first | (with_reducible first | exact HB.out | apply below_alloc | apply pw_below_drewN | apply below_drew1) | exact HB.out)⟩⟩
                      · rw [if_neg c10] at H
                        exact absurd H (by simp)
                    · rw [if_neg c8] at H
                      have c8b0 : (((rd_T85 l1 x7_2).f0.f0) == ((rd_T85 l0 x6_1).f0.f0) && (((rd_T85 l1 x7_2).f0.f1) == ((rd_T85 l0 x6_1).f0.f1))) = false := by simpa using c8
                      (try (have c8b1 : decide (((rd_T85 l1 x7_2).f0.f0) = ((rd_T85 l0 x6_1).f0.f0) && (((rd_T85 l1 x7_2).f0.f1) == ((rd_T85 l0 x6_1).f0.f1))) = false := by simpa using c8))
                      (try (have c8b2 : (((rd_T85 l1 x7_2).f0.f0) == ((rd_T85 l0 x6_1).f0.f0) && (((rd_T85 l1 x7_2).f0.f1) == ((rd_T85 l0 x6_1).f0.f1))) = false := by simpa using c8))
                      (try (have c8b3 : ¬ (((rd_T85 l1 x7_2).f0.f0) = ((rd_T85 l0 x6_1).f0.f0) && (((rd_T85 l1 x7_2).f0.f1) == ((rd_T85 l0 x6_1).f0.f1))) := by simpa using c8))
                      clear c8
                      have H' := Aside0.mk H
                      clear H
                      try go_wp2
                      have n0_ := Aside0.mk (Kd.S_drew HO_5.out)
                      have n1_ := Aside0.mk (below_drew1 HB.out)
                      clear HO_5
                      clear HB
                      have HO_5 := n0_
                      have HB := n1_
                      clear n0_ n1_
                      have p253 : 0 ≤ (x7_2 : Int) := of_decide_eq_true (by first | (with_reducible assumption) | assumption)
                      have q253 : x7_2 < (l1.length : Int) := of_decide_eq_true (by first | (with_reducible assumption) | assumption)
                      obtain ⟨ad253, A253_2, c253_2, e253, hx253_0, hx253_1, hx253_2, hx253_3, hl253_2, hi253_2⟩ := at_T85 HR1.out x7_2 p253 q253
                      have hw253_3 := hx253_3
                      have hw253_2 := hx253_2
                      have hw253_1 := hx253_1
                      have hw253_0 := hx253_0
                      cases e253
                      replace hx253_0 := (HB.out.cell (World.block_lt_of_cell? w _ hx253_0)).trans hx253_0
                      replace hx253_1 := (HB.out.cell (World.block_lt_of_cell? w _ hx253_1)).trans hx253_1
                      replace hx253_2 := (HB.out.cell (World.block_lt_of_cell? w _ hx253_2)).trans hx253_2
                      replace hx253_3 := (HB.out.cell (World.block_lt_of_cell? w _ hx253_3)).trans hx253_3
                      have HR253_2 := Aside0.mk hi253_2
                      have HC253_2 := Aside0.mk hl253_2
                      clear hi253_2 hl253_2
                      replace p253 := eq_true p253
                      replace q253 := eq_true q253
                      have p254 : 0 ≤ (x6_1 : Int) := of_decide_eq_true (by first | (with_reducible assumption) | assumption)
                      have q254 : x6_1 < (l0.length : Int) := of_decide_eq_true (by first | (with_reducible assumption) | assumption)
                      obtain ⟨ad254, A254_2, c254_2, e254, hx254_0, hx254_1, hx254_2, hx254_3, hl254_2, hi254_2⟩ := at_T85 HR0.out x6_1 p254 q254
                      have hw254_3 := hx254_3
                      have hw254_2 := hx254_2
                      have hw254_1 := hx254_1
                      have hw254_0 := hx254_0
                      cases e254
                      replace hx254_0 := (HB.out.cell (World.block_lt_of_cell? w _ hx254_0)).trans hx254_0
                      replace hx254_1 := (HB.out.cell (World.block_lt_of_cell? w _ hx254_1)).trans hx254_1
                      replace hx254_2 := (HB.out.cell (World.block_lt_of_cell? w _ hx254_2)).trans hx254_2
                      replace hx254_3 := (HB.out.cell (World.block_lt_of_cell? w _ hx254_3)).trans hx254_3
                      have HR254_2 := Aside0.mk hi254_2
                      have HC254_2 := Aside0.mk hl254_2
                      clear hi254_2 hl254_2
                      replace p254 := eq_true p254
                      replace q254 := eq_true q254
                      refine start_ (n := 11) (S := fun w' => w'.cell? (ad253.add ((x7_2).toNat * 4)) = some (.int .u64 ((rd_T85 l1 x7_2).f0.f0)) ∧ w'.cell? ⟨(ad253.add ((x7_2).toNat * 4)).block, (ad253.add ((x7_2).toNat * 4)).off + 1, none⟩ = some (.int .u32 ((rd_T85 l1 x7_2).f0.f1)) ∧ w'.cell? ⟨(ad253.add ((x7_2).toNat * 4)).block, (ad253.add ((x7_2).toNat * 4)).off + 2, none⟩ = some (.slice A253_2 ((rd_T85 l1 x7_2).f1).length c253_2) ∧ w'.cell? ⟨(ad253.add ((x7_2).toNat * 4)).block, (ad253.add ((x7_2).toNat * 4)).off + 3, none⟩ = some (.int .u64 ((rd_T85 l1 x7_2).f2)) ∧ w'.cell? (ad254.add ((x6_1).toNat * 4)) = some (.int .u64 ((rd_T85 l0 x6_1).f0.f0)) ∧ w'.cell? ⟨(ad254.add ((x6_1).toNat * 4)).block, (ad254.add ((x6_1).toNat * 4)).off + 1, none⟩ = some (.int .u32 ((rd_T85 l0 x6_1).f0.f1)) ∧ w'.cell? ⟨(ad254.add ((x6_1).toNat * 4)).block, (ad254.add ((x6_1).toNat * 4)).off + 2, none⟩ = some (.slice A254_2 ((rd_T85 l0 x6_1).f1).length c254_2) ∧ w'.cell? ⟨(ad254.add ((x6_1).toNat * 4)).block, (ad254.add ((x6_1).toNat * 4)).off + 3, none⟩ = some (.int .u64 ((rd_T85 l0 x6_1).f2))) (ds := []) #[false, false, false, false, false, false, false, false, false, false, false] (by kernel_rfl) rfl rfl ⟨((HB.out.cell (World.block_lt_of_cell? w _ hw253_0)).trans hw253_0), ((HB.out.cell (World.block_lt_of_cell? w _ hw253_1)).trans hw253_1), ((HB.out.cell (World.block_lt_of_cell? w _ hw253_2)).trans hw253_2), ((HB.out.cell (World.block_lt_of_cell? w _ hw253_3)).trans hw253_3), ((HB.out.cell (World.block_lt_of_cell? w _ hw254_0)).trans hw254_0), ((HB.out.cell (World.block_lt_of_cell? w _ hw254_1)).trans hw254_1), ((HB.out.cell (World.block_lt_of_cell? w _ hw254_2)).trans hw254_2), ((HB.out.cell (World.block_lt_of_cell? w _ hw254_3)).trans hw254_3)⟩ (fun hHeld => ?_); refine with_tabW hayloftref15_Rejoin.tab8 hayloftref15_Rejoin.bits8 (fun HT_ HW_ => ?_)
                      generalize wr.drew = w16 at HO_5 HB HR253_2 HR254_2 hx253_0 hx253_1 hx253_2 hx253_3 hx254_0 hx254_1 hx254_2 hx254_3 hHeld ⊢
                      refine pure_ (i := 0) (N := some 20) (v := ?_) (a' := ?_) #[true, false, false, false, false, false, false, false, false, false, false] rfl rfl (any_of HT_.out (by kernel_rfl)) (fun _ _ _ h => h) (Or.inl ⟨by rfl, ?_⟩) ?_ ?_
                      rotate_left
                      · intro w'
                        go_simp
                        with_reducible rfl
                      rotate_left
                      · simp only [Act.put, List.setIfInBounds_toArray, List.set_cons_zero, List.set_cons_succ, i64_w, i32_w]
                        rfl
                      refine pure_ (i := 1) (N := some 21) (v := ?_) (a' := ?_) #[true, true, false, false, false, false, false, false, false, false, false] rfl rfl (any_of HT_.out (by kernel_rfl)) (fun _ _ _ h => h) (Or.inl ⟨by rfl, ?_⟩) ?_ ?_
                      rotate_left
                      · intro w'
                        go_simp
                        with_reducible rfl
                      rotate_left
                      · simp only [Act.put, List.setIfInBounds_toArray, List.set_cons_zero, List.set_cons_succ, i64_w, i32_w]
                        rfl
                      refine pure_ (i := 2) (N := some 22) (v := ?_) (a' := ?_) #[true, true, true, false, false, false, false, false, false, false, false] rfl rfl (any_of HT_.out (by kernel_rfl)) (fun _ _ _ h => h) (Or.inl ⟨by rfl, ?_⟩) ?_ ?_
                      rotate_left
                      · intro w'
                        go_simp
                        with_reducible rfl
                      rotate_left
                      · simp only [Act.put, List.setIfInBounds_toArray, List.set_cons_zero, List.set_cons_succ, i64_w, i32_w]
                        rfl
                      refine pure_ (i := 3) (N := some 23) (v := ?_) (a' := ?_) #[true, true, true, true, false, false, false, false, false, false, false] rfl rfl (any_of HT_.out (by kernel_rfl)) (fun _ _ _ h => h) (Or.inl ⟨by rfl, ?_⟩) ?_ ?_
                      rotate_left
                      · intro w'
                        go_simp
                        with_reducible rfl
                      rotate_left
                      · simp only [Act.put, List.setIfInBounds_toArray, List.set_cons_zero, List.set_cons_succ, i64_w, i32_w]
                        rfl
                      refine pure_ (i := 5) (N := some 25) (v := ?_) (a' := ?_) #[true, true, true, true, false, true, false, false, false, false, false] rfl rfl (any_of HT_.out (by kernel_rfl)) (fun _ _ _ h => h) (Or.inl ⟨by rfl, ?_⟩) ?_ ?_
                      rotate_left
                      · intro w'
                        go_simp
                        with_reducible rfl
                      rotate_left
                      · simp only [Act.put, List.setIfInBounds_toArray, List.set_cons_zero, List.set_cons_succ, i64_w, i32_w]
                        rfl
                      refine pure_ (i := 6) (N := some 26) (v := ?_) (a' := ?_) #[true, true, true, true, false, true, true, false, false, false, false] rfl rfl (any_of HT_.out (by kernel_rfl)) (fun _ _ _ h => h) (Or.inl ⟨by rfl, ?_⟩) ?_ ?_
                      rotate_left
                      · intro w'
                        go_simp
                        with_reducible rfl
                      rotate_left
                      · simp only [Act.put, List.setIfInBounds_toArray, List.set_cons_zero, List.set_cons_succ, i64_w, i32_w]
                        rfl
                      refine pure_ (i := 7) (N := some 27) (v := ?_) (a' := ?_) #[true, true, true, true, false, true, true, true, false, false, false] rfl rfl (any_of HT_.out (by kernel_rfl)) (fun _ _ _ h => h) (Or.inl ⟨by rfl, ?_⟩) ?_ ?_
                      rotate_left
                      · intro w'
                        go_simp
                        with_reducible rfl
                      rotate_left
                      · simp only [Act.put, List.setIfInBounds_toArray, List.set_cons_zero, List.set_cons_succ, i64_w, i32_w]
                        rfl
                      refine pure_ (i := 8) (N := some 28) (v := ?_) (a' := ?_) #[true, true, true, true, false, true, true, true, true, false, false] rfl rfl (any_of HT_.out (by kernel_rfl)) (fun _ _ _ h => h) (Or.inl ⟨by rfl, ?_⟩) ?_ ?_
                      rotate_left
                      · intro w'
                        go_simp
                        with_reducible rfl
                      rotate_left
                      · simp only [Act.put, List.setIfInBounds_toArray, List.set_cons_zero, List.set_cons_succ, i64_w, i32_w]
                        rfl
                      refine take_ (i := 4) (N := some 24) (v := ?_) (a' := ?_) #[true, true, true, true, true, true, true, true, true, false, false] rfl rfl (take_ofW HT_.out HW_.out (by kernel_rfl)) (fun _ _ _ h => h) (Or.inl ⟨by rfl, ?_⟩) hHeld ?_ ?_
                      rotate_left
                      · rintro w' ⟨s0, s1, s2, s3, s4, s5, s6, s7⟩
                        go_simp
                        with_reducible rfl
                      rotate_left
                      · simp only [Act.put, List.setIfInBounds_toArray, List.set_cons_zero, List.set_cons_succ, i64_w, i32_w]
                        rfl
                      refine take_ (i := 9) (N := some 29) (v := ?_) (a' := ?_) #[true, true, true, true, true, true, true, true, true, true, false] rfl rfl (take_ofW HT_.out HW_.out (by kernel_rfl)) (fun _ _ _ h => h) (Or.inl ⟨by rfl, ?_⟩) hHeld ?_ ?_
                      rotate_left
                      · rintro w' ⟨s0, s1, s2, s3, s4, s5, s6, s7⟩
                        go_simp
                        with_reducible rfl
                      rotate_left
                      · simp only [Act.put, List.setIfInBounds_toArray, List.set_cons_zero, List.set_cons_succ, i64_w, i32_w]
                        rfl
                      refine pure_ (i := 10) (N := some 30) (v := ?_) (a' := ?_) #[true, true, true, true, true, true, true, true, true, true, true] rfl rfl (any_of HT_.out (by kernel_rfl)) (fun _ _ _ h => h) (Or.inl ⟨by rfl, ?_⟩) ?_ ?_
                      rotate_left
                      · intro w'
                        go_simp
                        with_reducible rfl
                      rotate_left
                      · simp only [Act.put, List.setIfInBounds_toArray, List.set_cons_zero, List.set_cons_succ, i64_w, i32_w]
                        rfl
                      refine done_ (done_of HT_.out (by kernel_rfl)) ?_
                      try go_wp2
                      go_roundg k2
                      case measure => have := HK1.out; have := HK2.out; omega
                      case rel => exact ⟨(x5_2), (wrap64 (x7_2 + 1)), (by first | rfl | (simp; done) | (simp [*]; done)), H', ⟨by have := HK1.out; have := HK2.out; omega⟩, ⟨by (with_reducible repeat (first | apply Kd.S_alloc | apply Kd.S_drewN | apply Kd.S_drew)); exact HO_5.out⟩, ⟨by repeat (first | (with_reducible first | exact HB.out | apply below_alloc | apply pw_below_drewN | apply below_drew1) | exact HB.out)⟩⟩
                  · rw [if_neg c7] at H
                    exact absurd H (by simp)
                · rw [if_neg c6] at H
                  exact absurd H (by simp)
              · rw [if_neg c5] at H
                exact absurd H (by simp)
            · rw [if_neg c4] at H
              have c4b0 : decide (x7_2 < (l1.length : Int)) = false := decide_eq_false c4
              clear c4
              have H' := Aside0.mk H
              clear H
              go_wp2
              go_roundg k2
              case measure => have := HK1.out; have := HK2.out; omega
              case rel => exact ⟨(x5_2), (wrap64 (x6_1 + 1)), (by first | rfl | (simp; done) | (simp [*]; done)), H', ⟨by have := HK1.out; have := HK2.out; omega⟩, ⟨by (with_reducible repeat (first | apply Kd.S_alloc | apply Kd.S_drewN | apply Kd.S_drew)); exact HO_5.out⟩, ⟨by repeat (first | (with_reducible first | exact HB.out | apply below_alloc | apply pw_below_drewN | apply below_drew1) | exact HB.out)⟩⟩
      · rw [if_neg c3] at H
        have c3b0 : decide (x6_1 < (l0.length : Int)) = false := decide_eq_false c3
        clear c3
        obtain rfl := Option.some.inj H
        go_wp2
        go_ret
        exact ⟨_, by first | rfl | (simp [errW_none, errW_some] <;> rfl) | (simp [*, errW_none, errW_some] <;> rfl), by (with_reducible repeat (first | apply Kd.S_alloc | apply Kd.S_drewN | apply Kd.S_drew)); exact HO_5.out, by repeat (first | (with_reducible first | exact HB.out | apply below_alloc | apply pw_below_drewN | apply below_drew1) | exact HB.out)⟩

end Go.Proofs.Ytghblnldokpceaa.QV
/- Rejoin, plain: versions put together by their names. -/
namespace Go.Proofs.Ytghblnldokpceaa.QV
open Go.RowKit Go.Proofs.YtghblnldokpceaaW.PrintWords Go.Proofs.Ytghblnldokpceaa.Op Go.Proofs.Ytghblnldokpceaa.Stab
set_option linter.unusedVariables false
set_option linter.unusedSimpArgs false
abbrev Ver : Type := S85
abbrev Id3 : Type := S83
abbrev zVer : Ver := z85
def ordI (a b : Id3) : Int := if a.f0 < b.f0 then -1 else if a.f0 > b.f0 then 1 else if a.f1 < b.f1 then -1 else if a.f1 > b.f1 then 1 else 0
theorem order_f (a b : Id3) : exec_order.f 3 a.f0 a.f1 b.f0 b.f1 = some (ordI a b) := by
  obtain ⟨a0, a1⟩ := a
  obtain ⟨b0, b1⟩ := b
  have h0 : wrap64 1 = 1 := by unfold wrap64; omega
  have h1 : wrap64 2 = 2 := by unfold wrap64; omega
  simp only [exec_order.f, cmp_Compare_uint64.f, cmp_Compare_uint32.f, cmp_isNaN_uint64.f, cmp_isNaN_uint32.f, cmp_Or_int.f, cmp_Or_int.l0, ordI, rd, bne_self_eq_false, Option.bind_some, Bool.false_eq_true, if_false]
  by_cases c1 : a0 < b0
  · simp [c1]; (repeat' split) <;> rfl
  · by_cases c2 : a0 > b0
    · simp [c1, c2]; (repeat' split) <;> rfl
    · by_cases c3 : a1 < b1
      · simp [c1, c2, c3, h0, h1]
      · by_cases c4 : a1 > b1
        · simp [c1, c2, c3, c4, h0, h1]
        · simp [c1, c2, c3, c4, h0, h1]
theorem preI : Pre ordI := ⟨fun x y => by unfold ordI; repeat' split <;> omega, fun x y z => by unfold ordI; repeat' split <;> omega⟩
theorem ordI_zero {a b : Id3} : ordI a b = 0 ↔ a = b := by
  obtain ⟨a0, a1⟩ := a
  obtain ⟨b0, b1⟩ := b
  unfold ordI
  simp only [S83.mk.injEq]
  repeat' split <;> omega
def isId (v : Id3) (x : Ver) : Bool := decide (ordI x.f0 v = 0)
/-- What a version comes to, of those of another list. -/
def rejoin1 (b : List Ver) (v : Ver) : Option Ver := (b.find? (isId v.f0)).map (fun x => ⟨v.f0, v.f1 ++ x.f1, v.f2⟩)
def rejoinL (a b : List Ver) : List Ver := a.filterMap (rejoin1 b)
/-- The first one with a name, of those that are sorted, is the first one of all. -/
theorem first_same {b R : List Ver} (h : Sorts zVer (fun x y => ordI x.f0 y.f0) b R) (v : Id3) : R.find? (isId v) = b.find? (isId v) := by
  obtain ⟨S, hp, hs, rfl⟩ := h
  rw [List.find?_map]
  have hb : b = (List.range b.length).map (fun i => b.getD i zVer) := (map_range zVer b).symm
  conv => rhs; rw [hb, List.find?_map]
  congr 1
  have key : ∀ (S T : List Nat), S.Perm T → S.Pairwise (Lt (fun i j => ordI (b.getD i zVer).f0 (b.getD j zVer).f0)) → T.Pairwise (· < ·) → S.find? ((isId v) ∘ fun i => b.getD i zVer) = T.find? ((isId v) ∘ fun i => b.getD i zVer) := by
    intro S T hp hs ht
    cases h1 : S.find? ((isId v) ∘ fun i => b.getD i zVer) with
    | none =>
      rw [List.find?_eq_none] at h1
      refine (List.find?_eq_none.2 fun x hx => h1 x (hp.mem_iff.2 hx)).symm
    | some i =>
      cases h2 : T.find? ((isId v) ∘ fun i => b.getD i zVer) with
      | none =>
        rw [List.find?_eq_none] at h2
        exact absurd (List.find?_some h1) (h2 i (hp.mem_iff.1 (List.mem_of_find?_eq_some h1)))
      | some j =>
        have hi : ordI (b.getD i zVer).f0 v = 0 := by have h := List.find?_some h1; simpa [isId] using h
        have hj : ordI (b.getD j zVer).f0 v = 0 := by have h := List.find?_some h2; simpa [isId] using h
        have hij : ordI (b.getD i zVer).f0 (b.getD j zVer).f0 = 0 := ordI_zero.2 ((ordI_zero.1 hi).trans (ordI_zero.1 hj).symm)
        have hji : ordI (b.getD j zVer).f0 (b.getD i zVer).f0 = 0 := ordI_zero.2 ((ordI_zero.1 hj).trans (ordI_zero.1 hi).symm)
        -- i is the first in S, j the first in T
        obtain ⟨p1, p2, rfl, hS⟩ := (List.find?_eq_some_iff_append.1 h1).2
        obtain ⟨q1, q2, rfl, hT⟩ := (List.find?_eq_some_iff_append.1 h2).2
        have hjS : j ∈ p1 ++ i :: p2 := hp.mem_iff.2 (by simp)
        have hiT : i ∈ q1 ++ j :: q2 := hp.mem_iff.1 (by simp)
        have hle1 : i = j ∨ i < j := by
          rcases List.mem_append.1 hjS with hm | hm
          · have := hS j hm
            exact absurd this (by simp only [Function.comp, isId, hj]; simp)
          · rcases List.mem_cons.1 hm with hm | hm
            · exact .inl hm.symm
            · have := (List.pairwise_cons.1 (List.pairwise_append.1 hs).2.1).1 j hm
              rcases this with h | ⟨_, h⟩
              · replace h : ordI (b.getD i zVer).f0 (b.getD j zVer).f0 < 0 := h
                omega
              · exact .inr h
        have hle2 : i = j ∨ j < i := by
          rcases List.mem_append.1 hiT with hm | hm
          · have := hT i hm
            exact absurd this (by simp only [Function.comp, isId, hi]; simp)
          · rcases List.mem_cons.1 hm with hm | hm
            · exact .inl hm
            · exact .inr ((List.pairwise_cons.1 (List.pairwise_append.1 ht).2.1).1 i hm)
        have : i = j := by omega
        rw [this]
  exact key S (List.range b.length) hp hs List.pairwise_lt_range
/-- What the search finds. -/
theorem find_cut {R : List Ver} {v : Id3} {i : Nat} (hs : R.Pairwise (fun x y => ordI x.f0 y.f0 ≤ 0)) (h1 : ∀ x ∈ R.take i, ordI x.f0 v < 0) (h2 : ∀ x ∈ R.drop i, ¬ ordI x.f0 v < 0) :
    R.find? (isId v) = if i < R.length ∧ ordI (R.getD i zVer).f0 v = 0 then some (R.getD i zVer) else none := by
  have hR : R.find? (isId v) = (R.drop i).find? (isId v) := by
    conv => lhs; rw [← List.take_append_drop i R, List.find?_append]
    have : (R.take i).find? (isId v) = none := List.find?_eq_none.2 fun x hx => by
      have := h1 x hx
      simp [isId]
      omega
    rw [this]
    rfl
  rw [hR]
  by_cases hi : i < R.length
  · have hd : R.drop i = R.getD i zVer :: R.drop (i + 1) := drop_get zVer R i hi
    have hs' := hs.sublist (List.drop_sublist i R)
    rw [hd] at h2 hs' ⊢
    generalize R.getD i zVer = x at *
    rw [List.find?_cons]
    by_cases h0 : ordI x.f0 v = 0
    · simp [isId, h0, hi]
    · have hx := h2 x (by simp)
      rw [if_neg (by simp [h0])]
      simp only [isId, h0, decide_false]
      refine List.find?_eq_none.2 fun y hy => ?_
      have hxy := (List.pairwise_cons.1 hs').1 y hy
      have hvx : ordI v x.f0 < 0 := (preI.swap v x.f0).2 (by omega)
      have := (preI.swap v y.f0).1 (preI.lt_le hvx hxy)
      simp only [isId, decide_eq_true_eq]
      omega
  · rw [List.drop_of_length_le (by omega), if_neg (by simp [hi])]
    rfl
theorem rejoinL_snoc (a b : List Ver) (v : Ver) : rejoinL (a ++ [v]) b = rejoinL a b ++ (rejoin1 b v).toList := by
  unfold rejoinL
  rw [List.filterMap_append]
  congr 1
theorem rejoinL_len (a b : List Ver) : (rejoinL a b).length ≤ a.length := List.length_filterMap_le _ _
theorem rejoinL_rows (a b : List Ver) (ha : ∀ x ∈ a, x.f1.length ≤ 1048576) (hb : ∀ x ∈ b, x.f1.length ≤ 1048576) : ∀ x ∈ rejoinL a b, x.f1.length ≤ 2097152 := by
  intro x hx
  obtain ⟨v, hv, he⟩ := List.mem_filterMap.1 hx
  unfold rejoin1 at he
  obtain ⟨y, hy, rfl⟩ := Option.map_eq_some_iff.1 he
  have h1 := ha v hv
  have h2 := hb y (List.mem_of_find?_eq_some hy)
  simp only [List.length_append]
  omega

theorem rj_scan (a b : List Ver) (ha : ∀ x ∈ a, x.f1.length ≤ 1048576) (hb : ∀ x ∈ b, x.f1.length ≤ 1048576) (hm : a.length ≤ 1048576) (hn : b.length ≤ 1048576) (i : Nat) (hi : i < a.length) (acc : List Ver) (hacc : acc.length ≤ i) (T : List Ver)
    (hT : Ev (fun k => hayloftref15_Rejoin.l0 k a b (acc ++ (rejoin1 b (a.getD i zVer)).toList) ((i + 1 : Nat) : Int)) T) :
    ∀ (d j : Nat), j + d = b.length → (∀ x ∈ b.take j, isId (a.getD i zVer).f0 x = false) → Ev (fun k => hayloftref15_Rejoin.l1 k a b acc (i : Int) (j : Int)) T := by
  have hw : wrap64 ((i : Int) + 1) = ((i + 1 : Nat) : Int) := by unfold wrap64; omega
  have hra : rd_T85 a (i : Int) = a.getD i zVer := rfl
  have hav := ha _ (getD_mem zVer hi)
  generalize a.getD i zVer = v at *
  intro d
  induction d with
  | zero =>
    intro j hj hno
    rw [List.take_of_length_le (by omega)] at hno
    have hf : rejoin1 b v = none := by
      unfold rejoin1
      rw [List.find?_eq_none.2 (fun x hx => by rw [hno x hx]; simp)]
      rfl
    rw [hf] at hT
    refine Ev.step (fun k => ?_) hT
    simp only [hayloftref15_Rejoin.l1, hw, Option.toList_none, List.append_nil]
    rw [if_neg (by omega)]
  | succ d ih =>
    intro j hj hno
    have hwj : wrap64 ((j : Int) + 1) = ((j + 1 : Nat) : Int) := by unfold wrap64; omega
    have hrb : rd_T85 b (j : Int) = b.getD j zVer := rfl
    have hts := take_snoc' zVer b j (by omega)
    have hbv := hb _ (getD_mem zVer (show j < b.length by omega))
    have hcut : b = b.take j ++ b.getD j zVer :: b.drop (j + 1) := by
      rw [← drop_get zVer b j (by omega), List.take_append_drop]
    have hin := ih (j + 1) (by omega)
    generalize hx : b.getD j zVer = x at *
    have heq : ((x.f0.f0 == v.f0.f0) && (x.f0.f1 == v.f0.f1)) = isId v.f0 x := by
      unfold isId
      rw [Bool.eq_iff_iff, decide_eq_true_iff, ordI_zero]
      obtain ⟨⟨p, q⟩, r, t⟩ := x
      obtain ⟨⟨p', q'⟩, r', t'⟩ := v
      simp
    cases hid : isId v.f0 x with
    | true =>
      have hf : rejoin1 b v = some ⟨v.f0, v.f1 ++ x.f1, v.f2⟩ := by
        unfold rejoin1
        rw [hcut, List.find?_append, List.find?_eq_none.2 (fun y hy => by rw [hno y hy]; simp), List.find?_cons, hid]
        rfl
      rw [hf] at hT
      refine Ev.step (fun k => ?_) hT
      have hjn : hayloftref15_Joined.f v.f1 x.f1 = some (v.f1 ++ x.f1) := by
        simp only [hayloftref15_Joined.f, Option.bind_some, List.nil_append, List.length_nil, Nat.zero_add]
        rw [if_pos (by omega)]
        first | (rw [if_pos (by omega)]) | (rw [Option.bind_some, if_pos (by omega)])
      simp only [hayloftref15_Rejoin.l1, hra, hrb, hw, heq, hid, hjn, Option.bind_some]
      rw [if_pos (by omega), if_pos (by omega), if_pos (by omega), if_pos (by omega), if_pos trivial, if_pos (by omega)]
      rfl
    | false =>
      refine Ev.step (fun k => ?_) (hin (by rw [← hts]; intro y hy; rcases List.mem_append.1 hy with hy | hy; exact hno y hy; rw [List.mem_singleton.1 hy]; exact hid))
      simp only [hayloftref15_Rejoin.l1, hra, hrb, hwj, heq, hid]
      rw [if_pos (by omega), if_pos (by omega), if_pos (by omega), if_pos (by omega), if_neg (by simp)]
theorem rj_loopV (a b : List Ver) (ha : ∀ x ∈ a, x.f1.length ≤ 1048576) (hb : ∀ x ∈ b, x.f1.length ≤ 1048576) (hm : a.length ≤ 1048576) (hn : b.length ≤ 1048576) : ∀ (d i : Nat), i + d = a.length → Ev (fun k => hayloftref15_Rejoin.l0 k a b (rejoinL (a.take i) b) (i : Int)) (rejoinL a b) := by
  intro d
  induction d with
  | zero =>
    intro i hi
    refine Ev.step (f := fun _ => some (rejoinL a b)) (fun k => ?_) (Ev.now _)
    simp only [hayloftref15_Rejoin.l0]
    rw [if_neg (by omega), List.take_of_length_le (by omega)]
  | succ d ih =>
    intro i hi
    have hts := take_snoc' zVer a i (by omega)
    have h1 := ih (i + 1) (by omega)
    rw [← hts, rejoinL_snoc] at h1
    have hl : (rejoinL (a.take i) b).length ≤ i := Nat.le_trans (rejoinL_len _ _) (by rw [List.length_take]; omega)
    refine Ev.step (fun k => ?_) (rj_scan a b ha hb hm hn i (by omega) _ hl _ h1 b.length 0 (by omega) (by simp))
    simp only [hayloftref15_Rejoin.l0]
    rw [if_pos (by omega)]
    rfl
theorem refRejoin_f (a b : List Ver) (ha : ∀ x ∈ a, x.f1.length ≤ 1048576) (hb : ∀ x ∈ b, x.f1.length ≤ 1048576) (hm : a.length ≤ 1048576) (hn : b.length ≤ 1048576) : ∃ k, hayloftref15_Rejoin.f k a b = some (rejoinL a b) := by
  have h := rj_loopV a b ha hb hm hn a.length 0 (by omega)
  exact h.rounds
end Go.Proofs.Ytghblnldokpceaa.QV
/- XRound outside a round (printed from XRound): one condition S on the world for the whole region; what yields its value in every world that meets S is taken first. -/
namespace Go.Proofs.Ytghblnldokpceaa.SeqW
open Go Go.RowKit
set_option linter.unusedVariables false

abbrev Rn (l : Nat) : Fence := Fence.wide
theorem calls_in (l n : Nat) {P : Program} {f : FuncId} {args : Array Value} {w : World} {R : Ending → World → Prop} (h : Calls P f args w R) : CallsIn (Rn l) n P f args w R :=
  callsIn_wide.2 h
theorem rows_in (l n : Nat) {P : Program} {row : String} {args : Array Value} {w : World} {R : Value → World → Prop} (h : Rows P row args w R) : RowsIn (Rn l) n P row args w R := by
  intro c cs _
  obtain ⟨v, w', r, s⟩ := h c cs
  exact ⟨v, w', r, stepsIn_wide.2 s⟩
/-- An operation that is no deferred call, carried out in a round, goes as anywhere. -/
theorem op_in (l n : Nat) {P : Program} {o : Oper} {a : Act} {w : World} {K : Act → World → Prop} {Q : Exit → Act → World → Prop} (hnd : ∀ c, o.op ≠ .defer c) (h : o.wp P a w K Q) : o.wpIn (Rn l) n P a w K Q := by
  refine ⟨fun _ _ => trivial, ?_⟩
  unfold Oper.wp at h
  rw [show (Rn l).round = none from rfl, Oper.semAt_none]
  generalize (execOp a.eval o).run P w = r at h
  cases r with
  | ok x w' =>
    cases x <;> simp only [Oper.upon, Oper.uponIn] at h ⊢
    case value v => exact h
    case skip => exact h
    case defer d => exact h
    case enter f args => exact ⟨(fun h => by cases h), calls_in l _ h⟩
    case row row args => exact ⟨(fun h => by cases h), rows_in l _ h⟩
  | halt x w' => cases x <;> simp only [Oper.upon, Oper.uponIn] at h ⊢; exact h

section
variable {l : Nat} {P : Program} {ops : Array Oper} {Q : Exit → Act → World → Prop} {S : World → Prop} {d : Nat}
def noDefer (ops : Array Oper) : Bool := ops.toList.all fun o => match o.op with | .defer _ => false | _ => true
theorem noDefer_spec (h : noDefer ops = true) (j : Nat) (o : Oper) (ho : ops[j]? = some o) : ∀ c, o.op ≠ .defer c := by
  intro c e
  have hm : o ∈ ops.toList := by
    have := Array.mem_of_getElem? ho
    simpa using this
  have := List.all_eq_true.1 h o hm
  rw [e] at this
  simp at this

/-- Number d waits for number i. -/
def waitsOn (ops : Array Oper) (d i : Nat) : Bool := match ops[d]? with
  | some o => o.after.toList.any (fun e => Region.binds .any e && e.on == i)
  | none => true
/-- S is to hold behind each operation but number d. -/
def wpAnyR (l : Nat) (P : Program) (ops : Array Oper) (Q : Exit → Act → World → Prop) (S : World → Prop) (d : Nat) : Nat → Array Bool → Act → World → Prop
  | 0, listed, a, w => Region.ready .any ops listed = [] ∧ Q .normal a w
  | fuel + 1, listed, a, w => (Region.ready .any ops listed = [] → Q .normal a w) ∧
    ∀ i ∈ Region.ready .any ops listed, wpOpIn (Rn l) 0 P ops Q i (fun a' w' => (i = d ∨ S w') ∧ wpAnyR l P ops Q S d fuel (listed.setIfInBounds i true) a' w') a w
theorem wpAnyIn_of_R : ∀ (fuel : Nat) (listed : Array Bool) (a : Act) (w : World), wpAnyR l P ops Q S d fuel listed a w → wpAnyIn (Rn l) 0 P .any ops Q fuel listed a w
  | 0, _, _, _, h => h
  | fuel + 1, _, _, _, h => ⟨h.1, fun i hi => wpOpIn_mono (fun a' w' h' => wpAnyIn_of_R fuel _ a' w' h'.2) (h.2 i hi)⟩
theorem YieldsIf.wpOpR {i : Nat} {o : Oper} {v : Value} {a : Act} (hnd : noDefer ops = true) (hi : ops[i]? = some o) (hy : YieldsIf P ops S o v a) {K : Act → World → Prop} {w : World} (hS : S w) (h : K (a.put o.dst v) w) : wpOpIn (Rn l) 0 P ops Q i K a w := by
  unfold Go.wpOpIn
  simp only [hi]
  rcases hy with ⟨hw, hv⟩ | ⟨hw, rfl⟩
  · simp only [hw, if_true]
    exact op_in l 0 (noDefer_spec hnd i o hi) (by simp only [Oper.wp, hv w hS, Oper.upon]; exact h)
  · simp only [hw, Bool.false_eq_true, if_false]; exact ⟨fun _ _ => trivial, h⟩
theorem wpOpR_putIf {j : Nat} {oi oj : Oper} {v : Value} (hnd : noDefer ops = true) (hj : ops[j]? = some oj) (hap : oi.apart ops oj = true)
    (hsi : ∀ cs b, oi.op ≠ .select cs b) (hsj : ∀ cs b, oj.op ≠ .select cs b)
    (hQ : ∀ c a w, Q (.panic c) (a.put oi.dst v) w → Q (.panic c) a w) {K : Act → World → Prop} {a : Act} {w : World}
    (hy : YieldsIf P ops S oi v a) (h : wpOpIn (Rn l) 0 P ops Q j K (a.put oi.dst v) w) :
    wpOpIn (Rn l) 0 P ops Q j (fun a' w' => YieldsIf P ops S oi v a' ∧ K (a'.put oi.dst v) w') a w := by
  have hnj := noDefer_spec hnd j oj hj
  obtain ⟨h1, h2, h3⟩ := Oper.apart_spec hap
  have keep : ∀ (a : Act), YieldsIf P ops S oi v a → ∀ u, YieldsIf P ops S oi v (a.put oj.dst u) := fun a hy u =>
    hy.of_same (execOp_put oi hsi a oj.dst u h3) (wanted_put oi a oj.dst u h3)
  have keepD : ∀ d, YieldsIf P ops S oi v { a with defers := d :: a.defers } := fun d => hy.of_same rfl rfl
  unfold wpOpIn at *
  simp only [hj] at *
  rw [wanted_put oj a oi.dst v h1] at h
  split
  · rename_i hw
    simp only [hw, if_true] at h
    unfold Oper.wpIn at *
    refine ⟨fun _ _ => trivial, ?_⟩
    have h := h.2
    rw [show (Rn l).round = none from rfl, Oper.semAt_none] at h ⊢
    rw [execOp_put oj hsj a oi.dst v h1] at h
    generalize (execOp a.eval oj).run P w = r at *
    cases r with
    | ok x w' =>
      cases x <;> simp only [Oper.uponIn] at h ⊢
      case value u => exact ⟨keep a hy u, by rw [← Act.put_comm a v u h2]; exact h⟩
      case skip => exact ⟨keep a hy _, by rw [← Act.put_comm a v undef h2]; exact h⟩
      case defer d =>
        refine ⟨keep _ (keepD d) _, ?_⟩
        rw [← Act.put_comm _ v undef h2, ← Act.put_defers]
        exact h
      case enter f args =>
        refine ⟨h.1, CallsIn.mono h.2 fun e w'' he => ?_⟩
        cases e with
        | returned u => exact ⟨keep a hy u, by rw [← Act.put_comm a v u h2]; exact he⟩
        | panicked c => exact hQ _ _ _ he
        | outgrown => exact he
      case row row args => exact ⟨h.1, RowsIn.mono h.2 fun u w'' he => ⟨keep a hy u, by rw [← Act.put_comm a v u h2]; exact he⟩⟩
      case round l f tmps assign body =>
        refine ⟨h.1, RoundIn.mono h.2 fun e w'' he => ?_⟩
        cases e with
        | returned u => exact ⟨keep a hy u, by rw [← Act.put_comm a v u h2]; exact he⟩
        | panicked c => exact hQ _ _ _ he
        | outgrown => exact he
    | halt x w' =>
      cases x <;> simp only [Oper.uponIn] at h ⊢
      case panic u => exact hQ _ _ _ h
  · rename_i hw
    simp only [hw] at h
    exact ⟨fun _ _ => trivial, keep a hy _, by rw [← Act.put_comm a v undef h2]; exact h.2⟩
theorem wpAnyR_first {i : Nat} {oi : Oper} {v : Value} (hnd : noDefer ops = true) (hwd : waitsOn ops d i = true) (hi : ops[i]? = some oi) (hsel : ∀ (j : Nat) (o : Oper) cs b, ops[j]? = some o → o.op ≠ .select cs b)
    (hQ : ∀ c a w, Q (.panic c) (a.put oi.dst v) w → Q (.panic c) a w) :
    ∀ (fuel : Nat) (listed : Array Bool) (a : Act) (w : World),
      (∀ j oj, ops[j]? = some oj → j ≠ i → listed.getD j true = false → (∀ e ∈ oj.after, Region.binds .any e = true → e.on ≠ i) → oi.apart ops oj = true) →
      i ∈ Region.ready .any ops listed → YieldsIf P ops S oi v a → S w →
      wpAnyR l P ops Q S d fuel (listed.setIfInBounds i true) (a.put oi.dst v) w → wpAnyR l P ops Q S d (fuel + 1) listed a w := by
  intro fuel
  induction fuel with
  | zero =>
    intro listed a w _ hr hy hS H
    refine ⟨fun h => (by rw [h] at hr; cases hr), fun j hj => ?_⟩
    by_cases hji : j = i
    · subst hji; exact YieldsIf.wpOpR hnd hi hy hS ⟨.inr hS, H⟩
    · have := ready_mono hj hji
      rw [H.1] at this
      cases this
  | succ fuel ih =>
    intro listed a w hfree hr hy hS H
    refine ⟨fun h => (by rw [h] at hr; cases hr), fun j hj => ?_⟩
    by_cases hji : j = i
    · subst hji; exact YieldsIf.wpOpR hnd hi hy hS ⟨.inr hS, H⟩
    · have h1 := H.2 j (ready_mono hj hji)
      obtain ⟨hjun, oj, hoj, hall⟩ := mem_ready.1 hj
      have hnot : ∀ e ∈ oj.after, Region.binds .any e = true → e.on ≠ i := fun e he hb heq => by
        have h1 := hall e he hb
        have h0 := (mem_ready.1 hr).1
        rw [heq] at h1
        rcases Nat.lt_or_ge i listed.size with h' | h'
        · simp [h'] at h0 h1; rw [h0] at h1; cases h1
        · simp [Array.getElem?_eq_none h'] at h1
      have h2 := wpOpR_putIf hnd hoj (hfree j oj hoj hji hjun hnot) (fun cs b => hsel i oi cs b hi) (fun cs b => hsel j oj cs b hoj) hQ hy h1
      have hfree' : ∀ k ok, ops[k]? = some ok → k ≠ i → (listed.setIfInBounds j true).getD k true = false →
          (∀ e ∈ ok.after, Region.binds .any e = true → e.on ≠ i) → oi.apart ops ok = true := fun k ok hk hki hun hno => by
        refine hfree k ok hk hki ?_ hno
        by_cases hjk : j = k
        · subst hjk; exact hjun
        · rw [getD_set_ne true hjk] at hun; exact hun
      have hjd : j ≠ d := by
        rintro rfl
        unfold waitsOn at hwd
        rw [hoj] at hwd
        obtain ⟨q, hq, hqb⟩ := List.any_eq_true.1 hwd
        rw [Array.mem_toList_iff] at hq
        rw [Bool.and_eq_true] at hqb
        exact hnot q hq hqb.1 (by simpa using hqb.2)
      refine wpOpIn_mono (fun a' w' h3 => ⟨.inr (h3.2.1.resolve_left hjd), ih (listed.setIfInBounds j true) a' w' hfree' (ready_mono hr (Ne.symm hji)) h3.1 (h3.2.1.resolve_left hjd) ?_⟩) h2
      rw [Array.setIfInBounds_comm _ _ hji]
      exact h3.2.2
/-- Take number i first. -/
theorem wpAnyR_take {i : Nat} {oi : Oper} {v : Value} {fuel : Nat} {listed : Array Bool} {a : Act} {w : World} (hnd : noDefer ops = true) (hwd : waitsOn ops d i = true) (hi : ops[i]? = some oi)
    (hs : Region.noSelect ops = true) (hf : Region.free .any ops listed i = true) (hr : (Region.ready .any ops listed).contains i = true)
    (hQ : ∀ c a w, Q (.panic c) (a.put oi.dst v) w → Q (.panic c) a w) (hy : YieldsIf P ops S oi v a) (hS : S w)
    (h : wpAnyR l P ops Q S d fuel (listed.setIfInBounds i true) (a.put oi.dst v) w) : wpAnyR l P ops Q S d (fuel + 1) listed a w :=
  wpAnyR_first hnd hwd hi (Region.noSelect_spec hs) hQ fuel listed a w (Region.free_spec hi hf) (by simpa using hr) hy hS h
/-- Number i is the only one that may come up: it goes as anywhere. -/
theorem wpAnyR_one {i : Nat} {o : Oper} {fuel : Nat} {listed : Array Bool} {a : Act} {w : World} (hnd : noDefer ops = true) (hr : Region.ready .any ops listed = [i]) (ho : ops[i]? = some o)
    (h : ∀ K' : Act → World → Prop, Shut (∀ a w, (i = d ∨ S w) → wpAnyR l P ops Q S d fuel (listed.setIfInBounds i true) a w → K' a w) → if Region.wanted o (yielded ops a.tmps) = true then Oper.wp P o a w K' Q else K' (a.put o.dst undef) w) :
    wpAnyR l P ops Q S d (fuel + 1) listed a w := by
  refine ⟨fun h0 => (by rw [hr] at h0; cases h0), fun j hj => ?_⟩
  rw [hr] at hj
  obtain rfl := List.mem_singleton.1 hj
  have := h (fun a' w' => (j = d ∨ S w') ∧ wpAnyR l P ops Q S d fuel (listed.setIfInBounds j true) a' w') (fun a w hs hw => ⟨hs, hw⟩)
  unfold Go.wpOpIn
  simp only [ho]
  split
  · rename_i hw; rw [if_pos hw] at this; exact op_in l 0 (noDefer_spec hnd j o ho) this
  · rename_i hw; rw [if_neg hw] at this; exact ⟨fun _ _ => trivial, this⟩
/-- Number i is the only one that may come up, and it is a call of yield (or whatever else goes in a round alone). -/
theorem wpAnyR_oneIn {i : Nat} {o : Oper} {fuel : Nat} {listed : Array Bool} {a : Act} {w : World} (hr : Region.ready .any ops listed = [i]) (ho : ops[i]? = some o)
    (h : ∀ K' : Act → World → Prop, Shut (∀ a w, (i = d ∨ S w) → wpAnyR l P ops Q S d fuel (listed.setIfInBounds i true) a w → K' a w) → if Region.wanted o (yielded ops a.tmps) = true then Oper.wpIn (Rn l) 0 P o a w K' Q else K' (a.put o.dst undef) w) :
    wpAnyR l P ops Q S d (fuel + 1) listed a w := by
  refine ⟨fun h0 => (by rw [hr] at h0; cases h0), fun j hj => ?_⟩
  rw [hr] at hj
  obtain rfl := List.mem_singleton.1 hj
  have := h (fun a' w' => (j = d ∨ S w') ∧ wpAnyR l P ops Q S d fuel (listed.setIfInBounds j true) a' w') (fun a w hs hw => ⟨hs, hw⟩)
  unfold Go.wpOpIn
  simp only [ho]
  split
  · rename_i hw; rw [if_pos hw] at this; exact this
  · rename_i hw; rw [if_neg hw] at this; exact ⟨fun _ _ => trivial, this⟩
theorem wpAnyR_done {listed : Array Bool} {a : Act} {w : World} (hr : Region.ready .any ops listed = []) (h : Q .normal a w) : ∀ fuel, wpAnyR l P ops Q S d fuel listed a w
  | 0 => ⟨hr, h⟩
  | _ + 1 => ⟨fun _ => h, by rw [hr]; simp⟩
/-- The beginning. -/
theorem wpIn_region_R (d : Nat) {id : Nat} {a : Act} {w : World} (hm : P.follows .mixedOrders = true) (hS : S w.drew)
    (h : S w.drew → wpAnyR l P ops Q S d ops.size (Array.replicate ops.size false) a w.drew) : (Code.region id ops true).wpIn (Rn l) 0 P Q a w :=
  wpIn_region_any hm (wpAnyIn_of_R _ _ _ _ (h hS))
end
end Go.Proofs.Ytghblnldokpceaa.SeqW
/- How an argument that reads as data is opened into kinds (Kd) of the print's words: whole numbers, bools, strings, structs, arrays of two and three, slices of these, at any depth; with the bounds that the row's reach and its bulk give. -/
namespace Go.Proofs.Ytghblnldokpceaa.Op
open Go.RowKit Go.Proofs.YtghblnldokpceaaW.PrintWords
set_option linter.unusedVariables false

def Opens {α : Type} (P : Program) (t : TypeId) (d : Kd α) (g : α → Prop) (m : α → Nat) : Prop :=
  ∀ {H : Type} (enc : TypeId × Value → H) (w : World) (base : Nat) (spare : Nat → Bool) (held : Bool) (fuel : Nat) (cs : List Value) (x : DataW H × List MemPlace),
    DataW.trod enc P w base spare held fuel t cs = some x → (∀ n ∈ x.1.weights P t, n ≤ reachBytes) → ∃ a, d.K w a cs ∧ g a ∧ m a ≤ Rows.uptoBulk x.1

theorem opens_int {P : Program} {t : TypeId} {k : IntKind} (ht : P.underlying t = some (.int k)) : Opens P t (Kd.int k) (fun n => (Lit.int k n).wf = true) (fun _ => 1) := by
  intro H enc w base spare held fuel cs x h _
  obtain ⟨n, rfl, rfl, hw⟩ := DataW.trod_int ht h
  exact ⟨n, rfl, hw, by simp [Rows.uptoBulk]⟩
theorem opens_bool {P : Program} {t : TypeId} (ht : P.underlying t = some .bool) : Opens P t Kd.bool (fun _ => True) (fun _ => 1) := by
  intro H enc w base spare held fuel cs x h _
  obtain ⟨b, rfl, rfl⟩ := DataW.trod_bool ht h
  exact ⟨b, rfl, trivial, by simp [Rows.uptoBulk]⟩
theorem opens_string {P : Program} {t : TypeId} (ht : P.underlying t = some .string) : Opens P t Kd.string (fun s => s.size ≤ 140737488351232) (fun s => s.size + 1) := by
  intro H enc w base spare held fuel cs x h hs
  obtain ⟨s, rfl, rfl, hw⟩ := DataW.trod_string ht h
  have hl : s.data.toList.length = s.size := by rw [Array.length_toList]; rfl
  refine ⟨s, rfl, ?_, by simp only [Rows.uptoBulk]; omega⟩
  have := hs s.data.toList.length (by simp [DataW.weights])
  rw [hl] at this
  exact this

theorem add_add (a : Addr) (m j : Nat) : (a.add m).add j = a.add (m + j) := by
  unfold Addr.add
  by_cases h1 : m = 0
  · subst h1; simp
  · by_cases h2 : j = 0
    · subst h2; simp [h1]
    · simp [h1, h2, Nat.add_assoc]
theorem cells_get {w : World} {base n : Nat} {a : Addr} {cs : List Value} (h : w.cells? base a n = some cs) : cs.length = n ∧ ∀ j u, cs[j]? = some u → w.cell? (a.add j) = some u := by
  unfold World.cells? at h
  split at h
  · have hl := mapM_some_length h
    refine ⟨by simpa using hl, fun j u hu => ?_⟩
    have hj : j < cs.length := (List.getElem?_eq_some_iff.1 hu).1
    have := mapM_some_get h j j (by rw [List.getElem?_range]; rw [hl] at hj; simpa using hj)
    rw [this]; exact hu
  · cases h

theorem weightsAll_mem {H : Type} {P : Program} {e : TypeId} : ∀ {l : List (DataW H)} {x : DataW H}, x ∈ l → ∀ n ∈ x.weights P e, n ∈ DataW.weightsAll P e l
  | [], _, h => by simp at h
  | y :: r, x, h => by
    intro n hn
    simp only [DataW.weightsAll, List.mem_append]
    rcases List.mem_cons.1 h with rfl | h
    · exact .inl hn
    · exact .inr (weightsAll_mem h n hn)

/-- One list of data against one list of values, element by element. -/
theorem all_open {α : Type} {H : Type} {K : α → List Value → Prop} {g : α → Prop} {m : α → Nat} {css : Nat → List Value → Prop} :
    ∀ (elems : List (DataW H × List MemPlace)) (o : Nat), (∀ i x, elems[i]? = some x → ∃ a cs, css (o + i) cs ∧ K a cs ∧ g a ∧ m a ≤ Rows.uptoBulk x.1) →
      ∃ zs : List α, zs.length = elems.length ∧ (∀ i a, zs[i]? = some a → ∃ cs, css (o + i) cs ∧ K a cs) ∧ (∀ a ∈ zs, g a) ∧ (zs.map m).sum ≤ Rows.uptoBulkAll (elems.map (·.1))
  | [], o, _ => ⟨[], rfl, by simp, by simp, by simp⟩
  | x :: r, o, h => by
    obtain ⟨a, cs, h1, h2, h3, h4⟩ := h 0 x rfl
    obtain ⟨zs, k1, k2, k3, k4⟩ := all_open (css := css) r (o + 1) (fun i y hy => by
      have := h (i + 1) y (by simpa using hy)
      rwa [show o + (i + 1) = o + 1 + i from by omega] at this)
    refine ⟨a :: zs, by simp [k1], fun i b hb => ?_, fun b hb => ?_, ?_⟩
    · cases i with
      | zero =>
        have : a = b := by simpa using hb
        subst this
        exact ⟨cs, h1, h2⟩
      | succ i =>
        have := k2 i b (by simpa using hb)
        rwa [show o + 1 + i = o + (i + 1) from by omega] at this
    · rcases List.mem_cons.1 hb with rfl | hb
      · exact h3
      · exact k3 b hb
    · simp only [List.map_cons, List.sum_cons, Rows.uptoBulkAll]
      omega

theorem opens_slice {P : Program} {t e : TypeId} {α : Type} {d : Kd α} {g : α → Prop} {m : α → Nat} (ht : P.underlying t = some (.slice e)) (hc : P.cellsOf e = d.sz) {B : Nat} (hB : P.bytesOf e = B) (he : Opens P e d g m) :
    Opens P t (Kd.slice e d) (fun xs => (∀ x ∈ xs, g x) ∧ xs.length ≤ 9223372036854775807 ∧ xs.length * B ≤ 140737488351232) (fun xs => (xs.map m).sum + 1) := by
  intro H enc w base spare held fuel cs x h hs
  rcases DataW.trod_slice ht h with ⟨rfl, rfl⟩ | ⟨a, len, cap, elems, rest, n, rfl, rfl, rfl, _, hl, hm, hel, hget, _⟩
  · exact ⟨[], ⟨none, 0, rfl, Nat.le_refl _, Kd.C_nil d w⟩, by simp, by simp [Rows.uptoBulk]⟩
  · have hw : ∀ y ∈ elems, ∀ n ∈ y.1.weights P e, n ≤ reachBytes := fun y hy n hn => hs n (by
      simp only [DataW.weights, ht, List.mem_cons, List.mem_append]
      exact .inr (.inl (weightsAll_mem (List.mem_map_of_mem hy) n hn)))
    have hlen : (elems.map (·.1)).length + (rest.map (·.1)).length = elems.length + rest.length := by simp
    have hb := hs _ (by simp only [DataW.weights, ht, List.mem_cons]; exact .inl rfl)
    rw [hlen, hB] at hb
    obtain ⟨zs, k1, k2, k3, k4⟩ := all_open (K := d.K w) (g := g) (m := m) (css := fun i cs => w.cells? base (a.add (i * d.sz)) d.sz = some cs) elems 0 (fun i y hy => by
      have hi : i < len := by rw [← hel]; exact (List.getElem?_eq_some_iff.1 hy).1
      have hg := hget i hi
      rw [hy, hc] at hg
      obtain ⟨cs, h1, h2⟩ := Option.bind_eq_some_iff.1 hg
      obtain ⟨b, h3, h4, h5⟩ := he enc w base spare held n cs y h2 (hw y (List.mem_of_getElem? hy))
      exact ⟨b, cs, by simpa using h1, h3, h4, h5⟩)
    have hle : zs.length * B ≤ 140737488351232 := by
      rw [k1]
      exact Nat.le_trans (Nat.mul_le_mul_right _ (Nat.le_add_right _ _)) hb
    have hmax : zs.length ≤ 9223372036854775807 := by
      rw [k1, hel]; unfold maxLen at hm; omega
    refine ⟨zs, ⟨some a, cap, by rw [k1, hel], by rw [k1, hel]; exact hl, rfl, hmax, fun _ => ⟨a, rfl, fun j p hj => ?_⟩⟩, ⟨k3, hmax, hle⟩, ?_⟩
    · obtain ⟨cs, h1, h2⟩ := k2 j p hj
      obtain ⟨h3, h4⟩ := cells_get h1
      simp only [Nat.zero_add] at h4
      exact ⟨cs, h3, h2, fun i u hu => by rw [← add_add]; exact h4 i u hu⟩
    · simp only [Rows.uptoBulk]; omega

/-- A struct's fields from place o on. -/
def OpensF {α : Type} (P : Program) (fs : List Field) (o : Nat) (d : Kd α) (g : α → Prop) (m : α → Nat) : Prop :=
  ∀ {H : Type} (enc : TypeId × Value → H) (w : World) (base : Nat) (spare : Nat → Bool) (held : Bool) (fuel : Nat) (cs : List Value) (xs : List (DataW H × List MemPlace)),
    xs.length = fs.length → (∀ (i : Nat) (f : Field), fs[i]? = some f → DataW.trod enc P w base spare held fuel f.type ((cs.drop f.offset).take (P.cellsOf f.type)) = xs[i]?) → cs.length = o + d.sz →
      (∀ n ∈ DataW.weightsEach P (fs.map (·.type)) (xs.map (·.1)), n ≤ reachBytes) → ∃ a, d.K w a (cs.drop o) ∧ g a ∧ m a ≤ Rows.uptoBulkAll (xs.map (·.1))
theorem opensF_last {P : Program} {f : Field} {o : Nat} {α : Type} {d : Kd α} {g : α → Prop} {m : α → Nat} (ho : f.offset = o) (hc : P.cellsOf f.type = d.sz) (h : Opens P f.type d g m) : OpensF P [f] o d g m := by
  intro H enc w base spare held fuel cs xs hl hget hcs hs
  match xs, hl with
  | [x], _ =>
    have h1 := hget 0 f rfl
    simp only [List.getElem?_cons_zero, ho, hc] at h1
    rw [List.take_of_length_le (by rw [List.length_drop]; omega)] at h1
    obtain ⟨a, k1, k2, k3⟩ := h enc w base spare held fuel _ x h1 (fun n hn => hs n (by simp only [List.map_cons, DataW.weightsEach, List.mem_append]; exact .inl hn))
    exact ⟨a, k1, k2, by simp only [List.map_cons, Rows.uptoBulkAll]; omega⟩
theorem opensF_cons {P : Program} {f : Field} {fs : List Field} {o o' : Nat} {α β : Type} {d : Kd α} {g : α → Prop} {m : α → Nat} {d' : Kd β} {g' : β → Prop} {m' : β → Nat} (ho : f.offset = o) (hc : P.cellsOf f.type = d.sz) (hoo : o + d.sz = o')
    (h : Opens P f.type d g m) (h' : OpensF P fs o' d' g' m') : OpensF P (f :: fs) o (Kd.pair d d') (fun x => g x.1 ∧ g' x.2) (fun x => m x.1 + m' x.2) := by
  intro H enc w base spare held fuel cs xs hl hget hcs hs
  match xs, hl with
  | x :: r, hl =>
    have hsz : (Kd.pair d d').sz = d.sz + d'.sz := rfl
    rw [hsz] at hcs
    have h1 := hget 0 f rfl
    simp only [List.getElem?_cons_zero, ho, hc] at h1
    obtain ⟨a, k1, k2, k3⟩ := h enc w base spare held fuel _ x h1 (fun n hn => hs n (by simp only [List.map_cons, DataW.weightsEach, List.mem_append]; exact .inl hn))
    obtain ⟨b, q1, q2, q3⟩ := h' enc w base spare held fuel cs r (by simpa using hl) (fun (i : Nat) (f : Field) hf => by simpa using hget (i + 1) f (by simpa using hf)) (by omega) (fun n hn => hs n (by simp only [List.map_cons, DataW.weightsEach, List.mem_append]; exact .inr hn))
    refine ⟨(a, b), ⟨(cs.drop o).take d.sz, cs.drop o', ?_, k1, q1⟩, ⟨k2, q2⟩, by simp only [List.map_cons, Rows.uptoBulkAll]; omega⟩
    rw [← hoo, ← List.drop_drop, List.take_append_drop]
theorem opens_struct {P : Program} {t : TypeId} {fs : Array Field} {α : Type} {d : Kd α} {g : α → Prop} {m : α → Nat} (ht : P.underlying t = some (.struct fs)) (hc : P.cellsOf t = d.sz) (h : OpensF P fs.toList 0 d g m) : Opens P t d g m := by
  intro H enc w base spare held fuel cs x hx hs
  obtain ⟨xs, n, rfl, rfl, hl, hxl, hget⟩ := DataW.trod_struct ht hx
  obtain ⟨a, h1, h2, h3⟩ := h enc w base spare held n cs xs (by simpa using hxl) (fun i f hf => hget i f (by simpa using hf)) (by omega) (fun n hn => hs n (by simpa only [DataW.weights, ht] using hn))
  refine ⟨a, by simpa using h1, h2, ?_⟩
  simp only [Rows.uptoBulk]
  omega
theorem opens_iso {P : Program} {t : TypeId} {α β : Type} {d : Kd α} {g : α → Prop} {m : α → Nat} {f : β → α} {b : α → β} (hfb : ∀ x, f (b x) = x) (h : Opens P t d g m) : Opens P t (Kd.iso d f) (fun x => g (f x)) (fun x => m (f x)) := by
  intro H enc w base spare held fuel cs x hx hs
  obtain ⟨a, h1, h2, h3⟩ := h enc w base spare held fuel cs x hx hs
  exact ⟨b a, by show d.K w (f (b a)) cs; rw [hfb]; exact h1, by show g (f (b a)); rw [hfb]; exact h2, by show m (f (b a)) ≤ _; rw [hfb]; exact h3⟩
theorem opens_mono {P : Program} {t : TypeId} {α : Type} {d : Kd α} {g g' : α → Prop} {m m' : α → Nat} (hg : ∀ x, g x → g' x) (hm : ∀ x, m' x ≤ m x) (h : Opens P t d g m) : Opens P t d g' m' := by
  intro H enc w base spare held fuel cs x hx hs
  obtain ⟨a, h1, h2, h3⟩ := h enc w base spare held fuel cs x hx hs
  exact ⟨a, h1, hg a h2, Nat.le_trans (hm a) h3⟩
theorem len_le_sum {α : Type} {m : α → Nat} (h : ∀ x, 1 ≤ m x) : ∀ l : List α, l.length ≤ (l.map m).sum
  | [] => by simp
  | x :: l => by have := h x; have := len_le_sum h l; simp only [List.length_cons, List.map_cons, List.sum_cons]; omega
theorem mem_le_sum {α : Type} {m : α → Nat} {x : α} : ∀ {l : List α}, x ∈ l → m x ≤ (l.map m).sum
  | [], h => by simp at h
  | y :: l, h => by
    simp only [List.map_cons, List.sum_cons]
    rcases List.mem_cons.1 h with rfl | h
    · omega
    · have := mem_le_sum (m := m) h; omega
end Go.Proofs.Ytghblnldokpceaa.Op
/- slices.SortStableFunc over rows, walked: insertion sort of a part. -/
namespace Go.Proofs.Ytghblnldokpceaa.QV
open Go.RowKit Go.Proofs.YtghblnldokpceaaW.PrintWords Go.Proofs.Ytghblnldokpceaa.SeqW Go.Shelf Go.Proofs.Ytghblnldokpceaa.Op Go.Proofs.Ytghblnldokpceaa.Stab
set_option linter.unusedVariables false
set_option linter.unusedSimpArgs false
abbrev tEl : Nat := 31

/-- A block that holds elements, one behind the other. -/
def El (enc : Nat → Value) (rest : List Value) (g : Nat) (xs : List Nat) (W : World) : Prop := W.heap[g]? = some (.cells (xs.map enc ++ rest).toArray tEl (0, 0))
theorem El.at {enc : Nat → Value} {rest : List Value} {g : Nat} {A B : List Nat} {x : Nat} {W : World} (h : El enc rest g (A ++ x :: B) W) {i : Nat} (hi : A.length = i) : W.cell? ⟨g, i, none⟩ = some (enc x) := by
  subst hi
  rw [blk_cell h]
  simp
theorem El.frozen {enc : Nat → Value} {rest : List Value} {g : Nat} {xs : List Nat} {W : World} (h : El enc rest g xs W) (i : Nat) : W.frozen? ⟨g, i, none⟩ = false := blk_frozen h i
theorem El.set {enc : Nat → Value} {rest : List Value} {g : Nat} {A B : List Nat} {x y : Nat} {W : World} (h : El enc rest g (A ++ x :: B) W) {i : Nat} (hi : A.length = i) : El enc rest g (A ++ y :: B) (W.setCell ⟨g, i, none⟩ (enc y)) := by
  subst hi
  have h2 := blk_set h A.length (enc y)
  refine h2.trans ?_
  simp
theorem El.kept {enc : Nat → Value} {rest : List Value} {g : Nat} {xs : List Nat} {W W' : World} (h : El enc rest g xs W) (hb : Below W.heap.size W W') : El enc rest g xs W' := blk_below h hb
theorem El.cast {enc : Nat → Value} {rest : List Value} {g : Nat} {xs ys : List Nat} {W : World} (h : El enc rest g xs W) (e : xs = ys) : El enc rest g ys W := e ▸ h
/-- An exchange, the lower place written first. -/
theorem El.swapLo {enc : Nat → Value} {rest : List Value} {g : Nat} {A B C : List Nat} {x y : Nat} {W : World} (h : El enc rest g (A ++ x :: (B ++ y :: C)) W) {I J : Nat} (hI : A.length = I) (hJ : I + 1 + B.length = J) :
    W.cell? ⟨g, I, none⟩ = some (enc x) ∧ W.cell? ⟨g, J, none⟩ = some (enc y) ∧ (W.setCell ⟨g, I, none⟩ (enc y)).cell? ⟨g, J, none⟩ = some (enc y) ∧ (W.setCell ⟨g, I, none⟩ (enc y)).frozen? ⟨g, J, none⟩ = false ∧
      El enc rest g (A ++ y :: (B ++ x :: C)) ((W.setCell ⟨g, I, none⟩ (enc y)).setCell ⟨g, J, none⟩ (enc x)) := by
  have h1 : El enc rest g (A ++ y :: (B ++ y :: C)) (W.setCell ⟨g, I, none⟩ (enc y)) := El.set h hI
  have h2 := h1.cast (ys := (A ++ y :: B) ++ y :: C) (by simp)
  have hl : (A ++ y :: B).length = J := by simp; omega
  have hl' : (A ++ x :: B).length = J := by simp; omega
  exact ⟨h.at hI, (h.cast (ys := (A ++ x :: B) ++ y :: C) (by simp)).at hl', h2.at hl, h2.frozen J, (El.set h2 hl).cast (by simp)⟩
/-- .. the upper one first. -/
theorem El.swapHi {enc : Nat → Value} {rest : List Value} {g : Nat} {A B C : List Nat} {x y : Nat} {W : World} (h : El enc rest g (A ++ x :: (B ++ y :: C)) W) {I J : Nat} (hI : A.length = I) (hJ : I + 1 + B.length = J) :
    W.cell? ⟨g, I, none⟩ = some (enc x) ∧ W.cell? ⟨g, J, none⟩ = some (enc y) ∧ (W.setCell ⟨g, J, none⟩ (enc x)).cell? ⟨g, I, none⟩ = some (enc x) ∧ (W.setCell ⟨g, J, none⟩ (enc x)).frozen? ⟨g, I, none⟩ = false ∧
      El enc rest g (A ++ y :: (B ++ x :: C)) ((W.setCell ⟨g, J, none⟩ (enc x)).setCell ⟨g, I, none⟩ (enc y)) := by
  have hl' : (A ++ x :: B).length = J := by simp; omega
  have h1 : El enc rest g ((A ++ x :: B) ++ x :: C) (W.setCell ⟨g, J, none⟩ (enc x)) := El.set (h.cast (ys := (A ++ x :: B) ++ y :: C) (by simp)) hl'
  have h2 := h1.cast (ys := A ++ x :: (B ++ x :: C)) (by simp)
  exact ⟨h.at hI, (h.cast (ys := (A ++ x :: B) ++ y :: C) (by simp)).at hl', h2.at hI, h2.frozen I, El.set h2 hI⟩

end Go.Proofs.Ytghblnldokpceaa.QV
/- slices.SortStableFunc over rows, walked: rotate. -/
namespace Go.Proofs.Ytghblnldokpceaa.QV
open Go.RowKit Go.Proofs.YtghblnldokpceaaW.PrintWords Go.Proofs.Ytghblnldokpceaa.SeqW Go.Shelf Go.Proofs.Ytghblnldokpceaa.Op Go.Proofs.Ytghblnldokpceaa.Stab
set_option linter.unusedVariables false
set_option linter.unusedSimpArgs false

end Go.Proofs.Ytghblnldokpceaa.QV
/- slices.SortStableFunc over rows, walked: symMerge. -/
namespace Go.Proofs.Ytghblnldokpceaa.QV
open Go.RowKit Go.Proofs.YtghblnldokpceaaW.PrintWords Go.Proofs.Ytghblnldokpceaa.SeqW Go.Shelf Go.Proofs.Ytghblnldokpceaa.Op Go.Proofs.Ytghblnldokpceaa.Stab
set_option linter.unusedVariables false
set_option linter.unusedSimpArgs false

theorem wrapN {k : Nat} (h : k ≤ 9223372036854775807) : IntKind.i64.wrap (k : Int) = (k : Int) := by rw [IntKind.wrap_i64]; omega
/-- A list at one of its places. -/
theorem at_mid {s : List Nat} {k : Nat} (h : k < s.length) : ∃ x, s = s.take k ++ x :: s.drop (k + 1) ∧ s.drop k = x :: s.drop (k + 1) ∧ s.take (k + 1) = s.take k ++ [x] := by
  obtain ⟨x, h1, h2⟩ := drop_cons h
  exact ⟨x, by rw [← h1, List.take_append_drop], h1, h2⟩
theorem pw_take {s : List Nat} {P : Nat → Nat → Prop} (h : s.Pairwise P) (k : Nat) : (s.take k).Pairwise P := h.sublist (List.take_sublist _ _)
theorem pw_drop {s : List Nat} {P : Nat → Nat → Prop} (h : s.Pairwise P) (k : Nat) : (s.drop k).Pairwise P := h.sublist (List.drop_sublist _ _)
theorem pw_cut {s : List Nat} {P : Nat → Nat → Prop} (h : s.Pairwise P) (k : Nat) : ∀ x ∈ s.take k, ∀ y ∈ s.drop k, P x y := by
  have : (s.take k ++ s.drop k).Pairwise P := by rw [List.take_append_drop]; exact h
  exact (List.pairwise_append.1 this).2.2
end Go.Proofs.Ytghblnldokpceaa.QV
/- slices.SortStableFunc over rows, walked: symMerge. -/
namespace Go.Proofs.Ytghblnldokpceaa.QV
open Go.RowKit Go.Proofs.YtghblnldokpceaaW.PrintWords Go.Proofs.Ytghblnldokpceaa.SeqW Go.Shelf Go.Proofs.Ytghblnldokpceaa.Op Go.Proofs.Ytghblnldokpceaa.Stab
set_option linter.unusedVariables false
set_option linter.unusedSimpArgs false

end Go.Proofs.Ytghblnldokpceaa.QV
/- slices.SortStableFunc over rows, walked: symMerge. -/
namespace Go.Proofs.Ytghblnldokpceaa.QV
open Go.RowKit Go.Proofs.YtghblnldokpceaaW.PrintWords Go.Proofs.Ytghblnldokpceaa.SeqW Go.Shelf Go.Proofs.Ytghblnldokpceaa.Op Go.Proofs.Ytghblnldokpceaa.Stab
set_option linter.unusedVariables false
set_option linter.unusedSimpArgs false

end Go.Proofs.Ytghblnldokpceaa.QV
/- slices.SortStableFunc over rows, walked: symMerge. -/
namespace Go.Proofs.Ytghblnldokpceaa.QV
open Go.RowKit Go.Proofs.YtghblnldokpceaaW.PrintWords Go.Proofs.Ytghblnldokpceaa.SeqW Go.Shelf Go.Proofs.Ytghblnldokpceaa.Op Go.Proofs.Ytghblnldokpceaa.Stab
set_option linter.unusedVariables false
set_option linter.unusedSimpArgs false

end Go.Proofs.Ytghblnldokpceaa.QV
/- slices.SortStableFunc over rows, walked: blocks, and merges of blocks. -/
namespace Go.Proofs.Ytghblnldokpceaa.QV
open Go.RowKit Go.Proofs.YtghblnldokpceaaW.PrintWords Go.Proofs.Ytghblnldokpceaa.SeqW Go.Shelf Go.Proofs.Ytghblnldokpceaa.Op Go.Proofs.Ytghblnldokpceaa.Stab
set_option linter.unusedVariables false
set_option linter.unusedSimpArgs false

/-- Blocks of bs elements each, sorted, and a last one of fewer. -/
structure Runs (cf : Nat → Nat → Int) (xs : List Nat) (bs : Nat) (Bs : List (List Nat)) (T : List Nat) : Prop where
  each : ∀ B ∈ Bs, B.length = bs ∧ B.Pairwise (Lt cf)
  tags : Bs.Pairwise (fun A B => ∀ x ∈ A, ∀ y ∈ B, x < y)
  tag : ∀ x ∈ Bs.flatten, ∀ y ∈ T, x < y
  last : T.Pairwise (Lt cf)
  len : T.length < bs
  perm : (Bs.flatten ++ T).Perm xs
theorem flat_len {bs : Nat} : ∀ {Bs : List (List Nat)}, (∀ B ∈ Bs, B.length = bs) → Bs.flatten.length = bs * Bs.length
  | [], _ => by simp
  | B :: Bs, h => by
    rw [List.flatten_cons, List.length_append, flat_len (fun C hC => h C (by simp [hC])), h B (by simp), List.length_cons, Nat.mul_succ]; omega
/-- While the blocks are merged two by two: those that are merged, those that are not yet. -/
structure Mid (cf : Nat → Nat → Int) (xs : List Nat) (bs : Nat) (D Bs : List (List Nat)) (T : List Nat) : Prop where
  eachD : ∀ B ∈ D, B.length = 2 * bs ∧ B.Pairwise (Lt cf)
  each : ∀ B ∈ Bs, B.length = bs ∧ B.Pairwise (Lt cf)
  tags : (D ++ Bs).Pairwise (fun A B => ∀ x ∈ A, ∀ y ∈ B, x < y)
  tag : ∀ x ∈ (D ++ Bs).flatten, ∀ y ∈ T, x < y
  last : T.Pairwise (Lt cf)
  len : T.length < bs
  perm : ((D ++ Bs).flatten ++ T).Perm xs
theorem Mid.start {cf : Nat → Nat → Int} {xs : List Nat} {bs : Nat} {Bs : List (List Nat)} {T : List Nat} (h : Runs cf xs bs Bs T) : Mid cf xs bs [] Bs T :=
  ⟨by simp, h.each, h.tags, h.tag, h.last, h.len, h.perm⟩
theorem Mid.lens {cf : Nat → Nat → Int} {xs : List Nat} {bs : Nat} {D Bs : List (List Nat)} {T : List Nat} (h : Mid cf xs bs D Bs T) : D.flatten.length = 2 * bs * D.length ∧ Bs.flatten.length = bs * Bs.length ∧ D.flatten.length + Bs.flatten.length + T.length = xs.length := by
  refine ⟨flat_len (fun B hB => (h.eachD B hB).1), flat_len (fun B hB => (h.each B hB).1), ?_⟩
  have := h.perm.length_eq
  rw [List.flatten_append, List.length_append, List.length_append] at this
  exact this
/-- Two blocks are merged. -/
theorem Mid.step {cf : Nat → Nat → Int} {xs : List Nat} {bs : Nat} {D Bs : List (List Nat)} {T B1 B2 S : List Nat} (h : Mid cf xs bs D (B1 :: B2 :: Bs) T) (hS : S.Perm (B1 ++ B2)) (hs : S.Pairwise (Lt cf)) : Mid cf xs bs (D ++ [S]) Bs T := by
  have hmem : ∀ x, x ∈ S ↔ x ∈ B1 ∨ x ∈ B2 := fun x => by rw [hS.mem_iff, List.mem_append]
  have hl : S.length = 2 * bs := by rw [hS.length_eq, List.length_append, (h.each B1 (by simp)).1, (h.each B2 (by simp)).1]; omega
  have hflat : ∀ x, x ∈ (D ++ [S] ++ Bs).flatten ↔ x ∈ (D ++ B1 :: B2 :: Bs).flatten := fun x => by
    simp only [List.flatten_append, List.mem_append, List.flatten_cons, List.flatten_nil, List.append_nil, hmem]
    constructor
    · rintro ((h | h | h) | h)
      · exact .inl h
      · exact .inr (.inl h)
      · exact .inr (.inr (.inl h))
      · exact .inr (.inr (.inr h))
    · rintro (h | h | h | h)
      · exact .inl (.inl h)
      · exact .inl (.inr (.inl h))
      · exact .inl (.inr (.inr h))
      · exact .inr h
  refine ⟨?_, fun B hB => h.each B (by simp [hB]), ?_, fun x hx => h.tag x ((hflat x).1 hx), h.last, h.len, ?_⟩
  · intro B hB
    rcases List.mem_append.1 hB with hB | hB
    · exact h.eachD B hB
    · rw [List.mem_singleton.1 hB]; exact ⟨hl, hs⟩
  · have ht := h.tags
    rw [List.pairwise_append] at ht
    obtain ⟨t1, t2, t3⟩ := ht
    rw [List.pairwise_cons] at t2
    obtain ⟨t4, t5⟩ := t2
    rw [List.pairwise_cons] at t5
    obtain ⟨t6, t7⟩ := t5
    rw [List.append_assoc, List.pairwise_append]
    refine ⟨t1, ?_, ?_⟩
    · rw [List.singleton_append, List.pairwise_cons]
      refine ⟨fun B hB x hx y hy => ?_, t7⟩
      rcases (hmem x).1 hx with hx | hx
      · exact t4 B (by simp [hB]) x hx y hy
      · exact t6 B hB x hx y hy
    · intro A hA B hB x hx y hy
      rw [List.singleton_append] at hB
      rcases List.mem_cons.1 hB with hB | hB
      · rw [hB] at hy
        rcases (hmem y).1 hy with hy | hy
        · exact t3 A hA B1 (by simp) x hx y hy
        · exact t3 A hA B2 (by simp) x hx y hy
      · exact t3 A hA B (by simp [hB]) x hx y hy
  · refine List.Perm.trans ?_ h.perm
    refine List.Perm.append_right T ?_
    simp only [List.flatten_append, List.flatten_cons, List.flatten_nil, List.append_nil]
    rw [List.append_assoc]
    refine List.Perm.append_left _ ?_
    rw [← List.append_assoc]
    exact List.Perm.append_right _ hS
/-- The end of a pass. -/
theorem Mid.ends {cf : Nat → Nat → Int} {xs : List Nat} {bs : Nat} {D Bs : List (List Nat)} {T S : List Nat} (h : Mid cf xs bs D Bs T) (hS : S.Perm (Bs.flatten ++ T)) (hs : S.Pairwise (Lt cf)) (hl : S.length < 2 * bs) : Runs cf xs (2 * bs) D S := by
  refine ⟨h.eachD, (List.pairwise_append.1 h.tags).1, fun x hx y hy => ?_, hs, hl, ?_⟩
  · rcases List.mem_append.1 (hS.mem_iff.1 hy) with hy | hy
    · obtain ⟨A, hA, hxA⟩ := List.mem_flatten.1 hx
      obtain ⟨B, hB, hyB⟩ := List.mem_flatten.1 hy
      exact (List.pairwise_append.1 h.tags).2.2 A hA B hB x hxA y hyB
    · exact h.tag x (by rw [List.flatten_append]; simp [hx]) y hy
  · refine List.Perm.trans ?_ h.perm
    rw [List.flatten_append, List.append_assoc]
    exact List.Perm.append_left _ hS
/-- The end of all. -/
theorem Runs.done {cf : Nat → Nat → Int} {xs : List Nat} {bs : Nat} {Bs : List (List Nat)} {T : List Nat} (h : Runs cf xs bs Bs T) (hb : xs.length ≤ bs) (h0 : 0 < bs) : (Bs.flatten ++ T).Pairwise (Lt cf) := by
  have hl := h.perm.length_eq
  rw [List.length_append, flat_len (fun B hB => (h.each B hB).1)] at hl
  match Bs, h, hl with
  | [], h, _ => simpa using h.last
  | [B], h, hl =>
    have : T = [] := List.eq_nil_of_length_eq_zero (by simp at hl; omega)
    subst this
    simpa using (h.each B (by simp)).2
  | A :: B :: Bs, h, hl =>
    exfalso
    rw [List.length_cons, List.length_cons, Nat.mul_succ, Nat.mul_succ] at hl
    omega
end Go.Proofs.Ytghblnldokpceaa.QV
/- As XRoundW, where S is asked for only until operation d has gone; what reads no world at all is taken at any time. -/
namespace Go.Proofs.Ytghblnldokpceaa.SeqX
open Go Go.RowKit Go.Proofs.Ytghblnldokpceaa.SeqW
set_option linter.unusedVariables false
section
variable {l : Nat} {P : Program} {ops : Array Oper} {Q : Exit → Act → World → Prop} {S : World → Prop} {d : Nat}
def Off (d i : Nat) (listed : Array Bool) : Prop := i = d ∨ listed.getD d false = true
def wpAnyX (l : Nat) (P : Program) (ops : Array Oper) (Q : Exit → Act → World → Prop) (S : World → Prop) (d : Nat) : Nat → Array Bool → Act → World → Prop
  | 0, listed, a, w => Region.ready .any ops listed = [] ∧ Q .normal a w
  | fuel + 1, listed, a, w => (Region.ready .any ops listed = [] → Q .normal a w) ∧
    ∀ i ∈ Region.ready .any ops listed, wpOpIn (Rn l) 0 P ops Q i (fun a' w' => (Off d i listed ∨ S w') ∧ wpAnyX l P ops Q S d fuel (listed.setIfInBounds i true) a' w') a w
theorem wpAnyIn_of_X : ∀ (fuel : Nat) (listed : Array Bool) (a : Act) (w : World), wpAnyX l P ops Q S d fuel listed a w → wpAnyIn (Rn l) 0 P .any ops Q fuel listed a w
  | 0, _, _, _, h => h
  | fuel + 1, _, _, _, h => ⟨h.1, fun i hi => wpOpIn_mono (fun a' w' h' => wpAnyIn_of_X fuel _ a' w' h'.2) (h.2 i hi)⟩
theorem getD_set_other {listed : Array Bool} {i d : Nat} (h : i ≠ d) : (listed.setIfInBounds i true).getD d false = listed.getD d false := by
  rw [Array.getD_eq_getD_getElem?, Array.getD_eq_getD_getElem?, Array.getElem?_setIfInBounds_ne h]
theorem Off.set {listed : Array Bool} {i j d : Nat} (h : Off d j listed) : Off d j (listed.setIfInBounds i true) := by
  rcases h with h | h
  · exact .inl h
  · by_cases hi : i = d
    · subst hi
      refine .inr ?_
      rw [Array.getD_eq_getD_getElem?] at h ⊢
      rcases Nat.lt_or_ge i listed.size with hl | hl
      · simp [hl]
      · simp [Array.getElem?_eq_none hl] at h
    · exact .inr (by rw [getD_set_other hi]; exact h)
theorem Off.unset {listed : Array Bool} {i j d : Nat} (hi : i ≠ d) (h : Off d j (listed.setIfInBounds i true)) : Off d j listed := by
  rcases h with h | h
  · exact .inl h
  · exact .inr (by rwa [getD_set_other hi] at h)
/-- What reads the world: while S holds. -/
theorem wpAnyX_first {i : Nat} {oi : Oper} {v : Value} (hnd : noDefer ops = true) (hid : i ≠ d) (hwd : waitsOn ops d i = true) (hi : ops[i]? = some oi) (hsel : ∀ (j : Nat) (o : Oper) cs b, ops[j]? = some o → o.op ≠ .select cs b)
    (hQ : ∀ c a w, Q (.panic c) (a.put oi.dst v) w → Q (.panic c) a w) :
    ∀ (fuel : Nat) (listed : Array Bool) (a : Act) (w : World),
      (∀ j oj, ops[j]? = some oj → j ≠ i → listed.getD j true = false → (∀ e ∈ oj.after, Region.binds .any e = true → e.on ≠ i) → oi.apart ops oj = true) →
      i ∈ Region.ready .any ops listed → YieldsIf P ops S oi v a → S w → listed.getD d false = false →
      wpAnyX l P ops Q S d fuel (listed.setIfInBounds i true) (a.put oi.dst v) w → wpAnyX l P ops Q S d (fuel + 1) listed a w := by
  intro fuel
  induction fuel with
  | zero =>
    intro listed a w _ hr hy hS hd H
    refine ⟨fun h => (by rw [h] at hr; cases hr), fun j hj => ?_⟩
    by_cases hji : j = i
    · subst hji; exact YieldsIf.wpOpR hnd hi hy hS ⟨.inr hS, H⟩
    · have := ready_mono hj hji
      rw [H.1] at this
      cases this
  | succ fuel ih =>
    intro listed a w hfree hr hy hS hd H
    refine ⟨fun h => (by rw [h] at hr; cases hr), fun j hj => ?_⟩
    by_cases hji : j = i
    · subst hji; exact YieldsIf.wpOpR hnd hi hy hS ⟨.inr hS, H⟩
    · have h1 := H.2 j (ready_mono hj hji)
      obtain ⟨hjun, oj, hoj, hall⟩ := mem_ready.1 hj
      have hnot : ∀ e ∈ oj.after, Region.binds .any e = true → e.on ≠ i := fun e he hb heq => by
        have h1 := hall e he hb
        have h0 := (mem_ready.1 hr).1
        rw [heq] at h1
        rcases Nat.lt_or_ge i listed.size with h' | h'
        · simp [h'] at h0 h1; rw [h0] at h1; cases h1
        · simp [Array.getElem?_eq_none h'] at h1
      have h2 := wpOpR_putIf hnd hoj (hfree j oj hoj hji hjun hnot) (fun cs b => hsel i oi cs b hi) (fun cs b => hsel j oj cs b hoj) hQ hy h1
      have hfree' : ∀ k ok, ops[k]? = some ok → k ≠ i → (listed.setIfInBounds j true).getD k true = false →
          (∀ e ∈ ok.after, Region.binds .any e = true → e.on ≠ i) → oi.apart ops ok = true := fun k ok hk hki hun hno => by
        refine hfree k ok hk hki ?_ hno
        by_cases hjk : j = k
        · subst hjk; exact hjun
        · rw [getD_set_ne true hjk] at hun; exact hun
      have hjd : j ≠ d := by
        rintro rfl
        unfold waitsOn at hwd
        rw [hoj] at hwd
        obtain ⟨q, hq, hqb⟩ := List.any_eq_true.1 hwd
        rw [Array.mem_toList_iff] at hq
        rw [Bool.and_eq_true] at hqb
        exact hnot q hq hqb.1 (by simpa using hqb.2)
      have hoff : ¬ Off d j (listed.setIfInBounds i true) := fun h => by
        rcases Off.unset hid h with h | h
        · exact hjd h
        · rw [hd] at h; cases h
      refine wpOpIn_mono (fun a' w' h3 => ⟨.inr (h3.2.1.resolve_left hoff), ih (listed.setIfInBounds j true) a' w' hfree' (ready_mono hr (Ne.symm hji)) h3.1 (h3.2.1.resolve_left hoff) (by rw [getD_set_other hjd]; exact hd) ?_⟩) h2
      rw [Array.setIfInBounds_comm _ _ hji]
      exact h3.2.2
/-- What reads no world. -/
theorem wpAnyX_firstP {i : Nat} {oi : Oper} {v : Value} (hnd : noDefer ops = true) (hid : i ≠ d) (hi : ops[i]? = some oi) (hsel : ∀ (j : Nat) (o : Oper) cs b, ops[j]? = some o → o.op ≠ .select cs b)
    (hQ : ∀ c a w, Q (.panic c) (a.put oi.dst v) w → Q (.panic c) a w) :
    ∀ (fuel : Nat) (listed : Array Bool) (a : Act) (w : World),
      (∀ j oj, ops[j]? = some oj → j ≠ i → listed.getD j true = false → (∀ e ∈ oj.after, Region.binds .any e = true → e.on ≠ i) → oi.apart ops oj = true) →
      i ∈ Region.ready .any ops listed → YieldsIf P ops (fun _ => True) oi v a → (listed.getD d false = true ∨ S w) →
      wpAnyX l P ops Q S d fuel (listed.setIfInBounds i true) (a.put oi.dst v) w → wpAnyX l P ops Q S d (fuel + 1) listed a w := by
  intro fuel
  induction fuel with
  | zero =>
    intro listed a w _ hr hy hS H
    refine ⟨fun h => (by rw [h] at hr; cases hr), fun j hj => ?_⟩
    by_cases hji : j = i
    · subst hji; exact YieldsIf.wpOpR hnd hi hy trivial ⟨hS.imp .inr id, H⟩
    · have := ready_mono hj hji
      rw [H.1] at this
      cases this
  | succ fuel ih =>
    intro listed a w hfree hr hy hS H
    refine ⟨fun h => (by rw [h] at hr; cases hr), fun j hj => ?_⟩
    by_cases hji : j = i
    · subst hji; exact YieldsIf.wpOpR hnd hi hy trivial ⟨hS.imp .inr id, H⟩
    · have h1 := H.2 j (ready_mono hj hji)
      obtain ⟨hjun, oj, hoj, hall⟩ := mem_ready.1 hj
      have hnot : ∀ e ∈ oj.after, Region.binds .any e = true → e.on ≠ i := fun e he hb heq => by
        have h1 := hall e he hb
        have h0 := (mem_ready.1 hr).1
        rw [heq] at h1
        rcases Nat.lt_or_ge i listed.size with h' | h'
        · simp [h'] at h0 h1; rw [h0] at h1; cases h1
        · simp [Array.getElem?_eq_none h'] at h1
      have h2 := wpOpR_putIf hnd hoj (hfree j oj hoj hji hjun hnot) (fun cs b => hsel i oi cs b hi) (fun cs b => hsel j oj cs b hoj) hQ hy h1
      have hfree' : ∀ k ok, ops[k]? = some ok → k ≠ i → (listed.setIfInBounds j true).getD k true = false →
          (∀ e ∈ ok.after, Region.binds .any e = true → e.on ≠ i) → oi.apart ops ok = true := fun k ok hk hki hun hno => by
        refine hfree k ok hk hki ?_ hno
        by_cases hjk : j = k
        · subst hjk; exact hjun
        · rw [getD_set_ne true hjk] at hun; exact hun
      have hjl : j < listed.size := by
        rcases Nat.lt_or_ge j listed.size with h | h
        · exact h
        · rw [Array.getD_eq_getD_getElem?, Array.getElem?_eq_none h] at hjun; simp at hjun
      have hres : ∀ w' : World, (Off d j (listed.setIfInBounds i true) ∨ S w') → Off d j listed ∨ S w' := fun w' h => h.imp (Off.unset hid) id
      refine wpOpIn_mono (fun a' w' h3 => ⟨hres w' h3.2.1, ih (listed.setIfInBounds j true) a' w' hfree' (ready_mono hr (Ne.symm hji)) h3.1 ?_ ?_⟩) h2
      · rcases hres w' h3.2.1 with h | h
        · refine .inl ?_
          rcases h with h | h
          · subst h
            rw [Array.getD_eq_getD_getElem?]
            simp [hjl]
          · exact (Off.set (j := d + 1) (.inr h)).resolve_left (by omega)
        · exact .inr h
      · rw [Array.setIfInBounds_comm _ _ hji]
        exact h3.2.2
theorem wpAnyX_take {i : Nat} {oi : Oper} {v : Value} {fuel : Nat} {listed : Array Bool} {a : Act} {w : World} (hnd : noDefer ops = true) (hid : (i == d) = false) (hwd : waitsOn ops d i = true) (hi : ops[i]? = some oi)
    (hs : Region.noSelect ops = true) (hf : Region.free .any ops listed i = true) (hr : (Region.ready .any ops listed).contains i = true) (hd : listed.getD d false = false)
    (hQ : ∀ c a w, Q (.panic c) (a.put oi.dst v) w → Q (.panic c) a w) (hy : YieldsIf P ops S oi v a) (hS : S w)
    (h : wpAnyX l P ops Q S d fuel (listed.setIfInBounds i true) (a.put oi.dst v) w) : wpAnyX l P ops Q S d (fuel + 1) listed a w :=
  wpAnyX_first hnd (by simpa using hid) hwd hi (Region.noSelect_spec hs) hQ fuel listed a w (Region.free_spec hi hf) (by simpa using hr) hy hS hd h
theorem wpAnyX_pure {i : Nat} {oi : Oper} {v : Value} {fuel : Nat} {listed : Array Bool} {a : Act} {w : World} (hnd : noDefer ops = true) (hid : (i == d) = false) (hi : ops[i]? = some oi)
    (hs : Region.noSelect ops = true) (hf : Region.free .any ops listed i = true) (hr : (Region.ready .any ops listed).contains i = true)
    (hQ : ∀ c a w, Q (.panic c) (a.put oi.dst v) w → Q (.panic c) a w) (hy : YieldsIf P ops (fun _ => True) oi v a) (hS : S w)
    (h : wpAnyX l P ops Q S d fuel (listed.setIfInBounds i true) (a.put oi.dst v) w) : wpAnyX l P ops Q S d (fuel + 1) listed a w :=
  wpAnyX_firstP hnd (by simpa using hid) hi (Region.noSelect_spec hs) hQ fuel listed a w (Region.free_spec hi hf) (by simpa using hr) hy (.inr hS) h
theorem wpAnyX_one {i : Nat} {o : Oper} {fuel : Nat} {listed : Array Bool} {a : Act} {w : World} (hnd : noDefer ops = true) (hr : Region.ready .any ops listed = [i]) (ho : ops[i]? = some o)
    (h : ∀ K' : Act → World → Prop, Shut (∀ a w, (Off d i listed ∨ S w) → wpAnyX l P ops Q S d fuel (listed.setIfInBounds i true) a w → K' a w) → if Region.wanted o (yielded ops a.tmps) = true then Oper.wp P o a w K' Q else K' (a.put o.dst undef) w) :
    wpAnyX l P ops Q S d (fuel + 1) listed a w := by
  refine ⟨fun h0 => (by rw [hr] at h0; cases h0), fun j hj => ?_⟩
  rw [hr] at hj
  obtain rfl := List.mem_singleton.1 hj
  have := h (fun a' w' => (Off d j listed ∨ S w') ∧ wpAnyX l P ops Q S d fuel (listed.setIfInBounds j true) a' w') (fun a w hs hw => ⟨hs, hw⟩)
  unfold Go.wpOpIn
  simp only [ho]
  split
  · rename_i hw; rw [if_pos hw] at this; exact op_in l 0 (noDefer_spec hnd j o ho) this
  · rename_i hw; rw [if_neg hw] at this; exact ⟨fun _ _ => trivial, this⟩
theorem wpAnyX_done {listed : Array Bool} {a : Act} {w : World} (hr : Region.ready .any ops listed = []) (h : Q .normal a w) : ∀ fuel, wpAnyX l P ops Q S d fuel listed a w
  | 0 => ⟨hr, h⟩
  | _ + 1 => ⟨fun _ => h, by rw [hr]; simp⟩
theorem wpIn_region_X (d : Nat) {id : Nat} {a : Act} {w : World} (hm : P.follows .mixedOrders = true) (hS : S w.drew)
    (h : S w.drew → wpAnyX l P ops Q S d ops.size (Array.replicate ops.size false) a w.drew) : (Code.region id ops true).wpIn (Rn l) 0 P Q a w :=
  wpIn_region_any hm (wpAnyIn_of_X _ _ _ _ (h hS))
end
end Go.Proofs.Ytghblnldokpceaa.SeqX
