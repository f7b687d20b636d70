/- The parts QVx7, SortP, SortC, SortR, SortF, Twice, Told, Group1, GroupF, AliveX, Total, LSorts of this proof, one behind the other. -/
import Derived.Test.YtghblnldokpceaaZ3
import Derived.Handy
/- Printed by mp.py (this session's) with the kit's print: plain functions with the answers of the Go code, and the proofs of it. -/
namespace Go.Proofs.Ytghblnldokpceaa.QV
open Go.RowKit Go.Proofs.YtghblnldokpceaaW.PrintWords Go.Proofs.YtghblnldokpceaaW.PrintLast Go.Proofs.YtghblnldokpceaaW.PrintMore
attribute [local go_sem] max2_int min2_int max_two min_two max_three min_three max_four min_four   -- for this text's walks alone
set_option linter.unusedVariables false
set_option linter.unusedSimpArgs false

/-! ### hayloftref15_Sort: function 25 -/
mutual
def hayloftref15_Sort.l0 : Nat → List (List (S42)) → List (S77) → List (List (S42)) → Int → Option ((List (List (S42))))
  | 0, _, _, _, _ => none
  | k + 1, x0, x1, x5, x6 => if x6 < (x0.length : Int) then (hayloftref15_Sort.l1 k x0 x1 x5 x6 (x5.length : Int)) else (some x5)
def hayloftref15_Sort.l1 : Nat → List (List (S42)) → List (S77) → List (List (S42)) → Int → Int → Option ((List (List (S42))))
  | 0, _, _, _, _, _ => none
  | k + 1, x0, x1, x5, x6, x7 => if x7 > 0 then (if 0 ≤ x6 then (if x6 < (x0.length : Int) then (if 0 ≤ (wrap64 (x7 - 1)) then (if (wrap64 (x7 - 1)) < (x5.length : Int) then ((hayloftref15_ahead.f k (rd_L4 x0 x6) (rd_L4 x5 (wrap64 (x7 - 1))) x1).bind fun t212 => (if t212 = true then (hayloftref15_Sort.l1 k x0 x1 x5 x6 (wrap64 (x7 - 1))) else (if 0 ≤ x7 then (if x7 ≤ (x5.length : Int) then ((some (x5.take (x7 : Int).toNat : List (List (S42)))).bind fun y213 => (if ([] : List (List (S42))).length + y213.length < 5864062014805 then ((some (([] : List (List (S42))) ++ y213 : List (List (S42)))).bind fun y218 => (if y218.length < 5864062014805 then ((some (y218 ++ [rd_L4 x0 x6] : List (List (S42)))).bind fun y222 => ((some (x5.drop (x7 : Int).toNat : List (List (S42)))).bind fun y225 => (if y222.length + y225.length < 5864062014805 then (hayloftref15_Sort.l0 k x0 x1 (y222 ++ y225) (wrap64 (x6 + 1))) else (none)))) else (none))) else (none))) else (none)) else (none)))) else (none)) else (none)) else (none)) else (none)) else (if 0 ≤ x7 then (if x7 ≤ (x5.length : Int) then ((some (x5.take (x7 : Int).toNat : List (List (S42)))).bind fun y233 => (if ([] : List (List (S42))).length + y233.length < 5864062014805 then ((some (([] : List (List (S42))) ++ y233 : List (List (S42)))).bind fun y238 => (if 0 ≤ x6 then (if x6 < (x0.length : Int) then (if y238.length < 5864062014805 then ((some (y238 ++ [rd_L4 x0 x6] : List (List (S42)))).bind fun y242 => ((some (x5.drop (x7 : Int).toNat : List (List (S42)))).bind fun y245 => (if y242.length + y245.length < 5864062014805 then (hayloftref15_Sort.l0 k x0 x1 (y242 ++ y245) (wrap64 (x6 + 1))) else (none)))) else (none)) else (none)) else (none))) else (none))) else (none)) else (none))
end
def hayloftref15_Sort.f (k : Nat) (l0 : List (List (S42))) (l1 : List (S77)) : Option ((List (List (S42)))) := hayloftref15_Sort.l0 k l0 l1 ([] : List (List (S42))) 0
theorem hayloftref15_Sort.mono_l : ∀ k, (∀ y0 y1 y2 y3, LeO (hayloftref15_Sort.l0 k y0 y1 y2 y3) (hayloftref15_Sort.l0 (k + 1) y0 y1 y2 y3)) ∧ (∀ y0 y1 y2 y3 y4, LeO (hayloftref15_Sort.l1 k y0 y1 y2 y3 y4) (hayloftref15_Sort.l1 (k + 1) y0 y1 y2 y3 y4))
  | 0 => ⟨fun _ _ _ _ r h => by simp [hayloftref15_Sort.l0] at h, fun _ _ _ _ _ r h => by simp [hayloftref15_Sort.l1] at h⟩
  | k + 1 => by
    obtain ⟨ih0, ih1⟩ := hayloftref15_Sort.mono_l k
    refine ⟨?_, ?_⟩
    · intro y0 y1 y2 y3
      unfold hayloftref15_Sort.l0
      repeat' first
      | (with_reducible exact ih0 _ _ _ _)
      | (with_reducible exact ih1 _ _ _ _ _)
      | (with_reducible exact hayloftref15_ahead.mono _ _ _ _)
      | (with_reducible exact LeO.refl _)
      | (with_reducible exact LeO.none _)
      | (with_reducible refine LeO.ite ?_ ?_)
      | (with_reducible refine LeO.bind ?_ (fun _ => ?_))
      | exact ih0 _ _ _ _
      | exact ih1 _ _ _ _ _
      | exact hayloftref15_ahead.mono _ _ _ _
      | exact LeO.none _
      | refine LeO.ite ?_ ?_
      | refine LeO.bind ?_ (fun _ => ?_)
    · intro y0 y1 y2 y3 y4
      unfold hayloftref15_Sort.l1
      repeat' first
      | (with_reducible exact ih0 _ _ _ _)
      | (with_reducible exact ih1 _ _ _ _ _)
      | (with_reducible exact hayloftref15_ahead.mono _ _ _ _)
      | (with_reducible exact LeO.refl _)
      | (with_reducible exact LeO.none _)
      | (with_reducible refine LeO.ite ?_ ?_)
      | (with_reducible refine LeO.bind ?_ (fun _ => ?_))
      | exact ih0 _ _ _ _
      | exact ih1 _ _ _ _ _
      | exact hayloftref15_ahead.mono _ _ _ _
      | exact LeO.none _
      | refine LeO.ite ?_ ?_
      | refine LeO.bind ?_ (fun _ => ?_)
theorem hayloftref15_Sort.mono : ∀ a0 a1 k, LeO (hayloftref15_Sort.f k a0 a1) (hayloftref15_Sort.f (k + 1) a0 a1) := by
  intro a0 a1 k
  obtain ⟨ih0, ih1⟩ := hayloftref15_Sort.mono_l k
  unfold hayloftref15_Sort.f
  repeat' first
      | (with_reducible exact ih0 _ _ _ _)
      | (with_reducible exact ih1 _ _ _ _ _)
      | (with_reducible exact hayloftref15_ahead.mono _ _ _ _)
      | (with_reducible exact LeO.refl _)
      | (with_reducible exact LeO.none _)
      | (with_reducible refine LeO.ite ?_ ?_)
      | (with_reducible refine LeO.bind ?_ (fun _ => ?_))
      | exact ih0 _ _ _ _
      | exact ih1 _ _ _ _ _
      | exact hayloftref15_ahead.mono _ _ _ _
      | exact LeO.none _
      | refine LeO.ite ?_ ?_
      | refine LeO.bind ?_ (fun _ => ?_)
def hayloftref15_Sort.T7 : Bool × List (List Nat × List Nat) := (true, [([], []), ([], []), ([0, 1], [0, 1]), ([2], [2]), ([], []), ([], []), ([5], [5]), ([4, 6], [4, 6]), ([7], [7]), ([], []), ([3, 8, 9], [3, 8, 9]), ([10, 10, 0, 1, 2, 3, 4, 5, 6, 7, 8, 9, 10], [10])])
def hayloftref15_Sort.B7 : List Nat := [0, 0, 3, 7, 0, 0, 32, 112, 240, 0, 1023, 2047]
theorem hayloftref15_Sort.tab7 : rtab .any (opsOf Try.f25 7) = hayloftref15_Sort.T7 := by kernel_rfl
theorem hayloftref15_Sort.bits7 : waitsOk hayloftref15_Sort.T7.2 hayloftref15_Sort.B7 = true := by kernel_rfl
set_option maxHeartbeats 8000000 in
set_option maxRecDepth 100000 in
theorem hayloftref15_Sort.calls (k : Nat) (P0_ : Nat → Prop) (A0 : Option Addr) (c0 : Nat) (l0 : List (List (S42))) (A1 : Option Addr) (c1 : Nat) (l1 : List (S77)) (r : List (List (S42))) (w : World) (hs0 : Kd.V (Kd.slice 42 k42) 31 w w.heap.size (fun k_ => P0_ k_) (.slice A0 l0.length c0) l0) (hr1 : Kd.C k77 w A1 l1.length l1) (hc1 : l1.length ≤ c1) (h : hayloftref15_Sort.f k l0 l1 = some r) :
    Calls Try.prog 25 #[.slice A0 l0.length c0, .slice A1 l1.length c1] w fun e w' => ∃ v0_ : Value, e = .returned (v0_) ∧ Kd.N (Kd.slice 42 k42) 31 w' w.heap.size (fun k_ => (P0_ k_ ∨ w.heap.size ≤ k_)) v0_ r ∧ Below w.heap.size w w' := by
  have HO0 := Aside0.mk (show Kd.V (Kd.slice 42 k42) 31 w w.heap.size (fun k_ => (P0_ k_ ∨ w.heap.size ≤ k_)) (.slice A0 l0.length c0) l0 from Kd.V_mono hs0 (fun k_ hk => .inl hk))
  have HR1 := Aside0.mk hr1
  have HC1 := Aside0.mk hc1
  clear hr1 hc1
  have HB := Aside0.mk (Below.refl w.heap.size w)
  have H : (hayloftref15_Sort.l0 k l0 l1 ([] : List (List (S42))) 0) = some r := h
  clear h
  have H' := Aside0.mk H
  clear H
  go_enter Try.func25, Try.ntmps25
  go_wp2
  go_loopg [5, 6] k (fun kq v5 v6 w' => ∃ (x5_1 : List (List (S42))) (x6_1 : Int), v6 = .int .i64 x6_1 ∧ Aside0 (hayloftref15_Sort.l0 kq l0 l1 x5_1 x6_1 = some r) ∧ Aside0 (kq ≤ k) ∧ Aside0 (Kd.V (Kd.slice 42 k42) 31 w' w.heap.size (fun k_ => (P0_ k_ ∨ w.heap.size ≤ k_) ∧ some k_ ≠ (v5 : Value).ownBlock) (.slice A0 l0.length c0) l0) ∧ Aside0 (Kd.N (Kd.slice 42 k42) 31 w' w.heap.size (fun k_ => (P0_ k_ ∨ w.heap.size ≤ k_)) v5 x5_1) ∧ Aside0 (Below w.heap.size w w'))
  case atStart => exact ⟨(([] : List (List (S42)))), (0), (by first | rfl | (simp; done) | (simp [*]; done)), H', ⟨Nat.le_refl _⟩, ⟨by (with_reducible repeat (first | apply Kd.V_alloc | apply Kd.V_drewN | apply Kd.V_drew)); exact Kd.V_mono HO0.out (fun _ hk => ⟨hk, (by simp [Value.ownBlock])⟩)⟩, ⟨by first | exact Kd.S_nil _ _ _ _ _ | exact Kd.N_nil _ _ _ _ _ | exact Kd.V_nil _ _ _ _ _ | exact Kd.Q_nil _ _ _ _ _ | exact Kd.R_nil _ _ _ _ _⟩, ⟨by repeat (first | (with_reducible first | exact HB.out | apply below_alloc | apply pw_below_drewN | apply below_drew1) | exact HB.out)⟩⟩
  case round =>
    clear H'
    try clear c1
    try clear c2
    try clear p2
    obtain ⟨x5_1, x6_1, rfl, HA, HK1, HO_0, HO_5, HB⟩ := hrel
    cases gk with
    | zero => exact absurd HA.out (by simp [hayloftref15_Sort.l0])
    | succ k1 =>
      have H := HA.out
      clear HA
      simp only [hayloftref15_Sort.l0] at H
      by_cases c3 : x6_1 < (l0.length : Int)
      · rw [if_pos c3] at H
        have c3b0 : decide (x6_1 < (l0.length : Int)) = true := decide_eq_true c3
        clear c3
        have H' := Aside0.mk H
        clear H
        obtain ⟨Ao4, co4, eo4⟩ := Kd.N_slice HO_5.out
        subst eo4
        go_wp2
        go_loopg [7] k1 (fun kq v7 w' => ∃ (x7_2 : Int), v7 = .int .i64 x7_2 ∧ Aside0 (hayloftref15_Sort.l1 kq l0 l1 x5_1 x6_1 x7_2 = some r) ∧ Aside0 (kq ≤ k1) ∧ Aside0 (Kd.V (Kd.slice 42 k42) 31 w' w.heap.size (fun k_ => (P0_ k_ ∨ w.heap.size ≤ k_) ∧ some k_ ≠ ((.slice Ao4 x5_1.length co4) : Value).ownBlock) (.slice A0 l0.length c0) l0) ∧ Aside0 (Kd.N (Kd.slice 42 k42) 31 w' w.heap.size (fun k_ => (P0_ k_ ∨ w.heap.size ≤ k_)) (.slice Ao4 x5_1.length co4) x5_1) ∧ Aside0 (Below w.heap.size w w'))
        case atStart => exact ⟨((x5_1.length : Int)), (by first | rfl | (simp; done) | (simp [*]; done)), H', ⟨Nat.le_refl _⟩, ⟨by (with_reducible repeat (first | apply Kd.V_alloc | apply Kd.V_drewN | apply Kd.V_drew)); exact HO_0.out⟩, ⟨by (with_reducible repeat (first | apply Kd.N_alloc | apply Kd.N_drewN | apply Kd.N_drew)); exact HO_5.out⟩, ⟨by repeat (first | (with_reducible first | exact HB.out | apply below_alloc | apply pw_below_drewN | apply below_drew1) | exact HB.out)⟩⟩
        case round =>
          clear H'
          try clear c1
          try clear c2
          try clear p2
          try clear c3
          try clear c3b0
          try clear p2
          obtain ⟨x7_2, rfl, HA, HK2, HO_0, HO_5, HB⟩ := hrel
          cases gk with
          | zero => exact absurd HA.out (by simp [hayloftref15_Sort.l1])
          | succ k2 =>
            have H := HA.out
            clear HA
            simp only [hayloftref15_Sort.l1] at H
            by_cases c5 : x7_2 > 0
            · rw [if_pos c5] at H
              have c5b0 : decide (0 < x7_2) = true := decide_eq_true c5
              clear c5
              by_cases c6 : 0 ≤ x6_1
              · rw [if_pos c6] at H
                have c6b0 : decide (0 ≤ x6_1) = true := decide_eq_true c6
                clear c6
                by_cases c7 : x6_1 < (l0.length : Int)
                · rw [if_pos c7] at H
                  have c7b0 : decide (x6_1 < (l0.length : Int)) = true := decide_eq_true c7
                  clear c7
                  obtain ⟨ji8, hji8⟩ : ∃ j_ : Int, (wrap64 (x7_2 - 1)) = j_ := ⟨_, rfl⟩
                  replace H : (if 0 ≤ (ji8) then (if (ji8) < (x5_1.length : Int) then ((hayloftref15_ahead.f k2 (rd_L4 l0 x6_1) (rd_L4 x5_1 (ji8)) l1).bind fun t212 => (if t212 = true then (hayloftref15_Sort.l1 k2 l0 l1 x5_1 x6_1 ji8) else (if 0 ≤ x7_2 then (if x7_2 ≤ (x5_1.length : Int) then ((some (x5_1.take (x7_2 : Int).toNat : List (List (S42)))).bind fun y213 => (if ([] : List (List (S42))).length + y213.length < 5864062014805 then ((some (([] : List (List (S42))) ++ y213 : List (List (S42)))).bind fun y218 => (if y218.length < 5864062014805 then ((some (y218 ++ [rd_L4 l0 x6_1] : List (List (S42)))).bind fun y222 => ((some (x5_1.drop (x7_2 : Int).toNat : List (List (S42)))).bind fun y225 => (if y222.length + y225.length < 5864062014805 then (hayloftref15_Sort.l0 k2 l0 l1 (y222 ++ y225) (wrap64 (x6_1 + 1))) else (none)))) else (none))) else (none))) else (none)) else (none)))) else (none)) else (none)) = some r := by first | (rw [hji8] at H; exact H) | (simp only [hji8] at H ⊢; exact H)
                  have hji8w : (IntKind.i64.wrap (x7_2 - 1)) = ji8 := (i64_w _).trans hji8
                  by_cases c9 : 0 ≤ (ji8)
                  · rw [if_pos c9] at H
                    have c9b0 : decide (0 ≤ (ji8)) = true := decide_eq_true c9
                    clear c9
                    by_cases c10 : (ji8) < (x5_1.length : Int)
                    · rw [if_pos c10] at H
                      have c10b0 : decide ((ji8) < (x5_1.length : Int)) = true := decide_eq_true c10
                      clear c10
                      replace H := Option.bind_eq_some_iff.mp H
                      obtain ⟨t212, A110, H⟩ := H
                      replace H : (if t212 = true then (hayloftref15_Sort.l1 k2 l0 l1 x5_1 x6_1 ji8) else (if 0 ≤ x7_2 then (if x7_2 ≤ (x5_1.length : Int) then ((some (x5_1.take (x7_2 : Int).toNat : List (List (S42)))).bind fun y213 => (if ([] : List (List (S42))).length + y213.length < 5864062014805 then ((some (([] : List (List (S42))) ++ y213 : List (List (S42)))).bind fun y218 => (if y218.length < 5864062014805 then ((some (y218 ++ [rd_L4 l0 x6_1] : List (List (S42)))).bind fun y222 => ((some (x5_1.drop (x7_2 : Int).toNat : List (List (S42)))).bind fun y225 => (if y222.length + y225.length < 5864062014805 then (hayloftref15_Sort.l0 k2 l0 l1 (y222 ++ y225) (wrap64 (x6_1 + 1))) else (none)))) else (none))) else (none))) else (none)) else (none))) = some r := H
                      have A11 := Aside0.mk A110
                      clear A110
                      by_cases c12 : t212 = true
                      · subst c12
                        have H1 : (hayloftref15_Sort.l1 k2 l0 l1 x5_1 x6_1 ji8) = some r := by rw [if_pos rfl] at H; exact H
                        clear H
                        have H := H1
                        clear H1
                        have H' := Aside0.mk H
                        clear H
                        try go_wp2
                        have n0_ := Aside0.mk (Kd.V_drew HO_0.out)
                        have n1_ := Aside0.mk (Kd.N_drew HO_5.out)
                        have n2_ := Aside0.mk (below_drew1 HB.out)
                        clear HO_0
                        clear HO_5
                        clear HB
                        have HO_0 := n0_
                        have HO_5 := n1_
                        have HB := n2_
                        clear n0_ n1_ n2_
                        have p210 : 0 ≤ (x6_1 : Int) := of_decide_eq_true (by first | (with_reducible assumption) | assumption)
                        have q210 : x6_1 < (l0.length : Int) := of_decide_eq_true (by first | (with_reducible assumption) | assumption)
                        obtain ⟨ad210, A210_0, c210_0, e210, hx210_0, hl210_0, hi210_0⟩ := at_L4 (Kd.V_reads' HO_0.out).2.2 x6_1 p210 q210
                        cases e210
                        obtain ⟨ce210, hce210, hMe210, hcc210⟩ := Kd.V_get HO_0.out [] x6_1 p210 (by first | exact q210 | exact of_decide_eq_true (by first | (with_reducible assumption) | assumption) | (have e_ := (Kd.V_reads' HO_0.out).1; omega))
                        obtain ⟨ua210_0, uc210_0, rfl, ul210_0, ge210_0⟩ := Kd.FK_slice_open hMe210
                        have hv210_0 := hcc210 0 _ rfl
                        rw [Nat.add_zero, show ((Kd.slice 42 k42)).sz = 1 from rfl, Nat.mul_one] at hv210_0
                        replace hv210_0 := Option.some.inj (hv210_0.symm.trans hx210_0)
                        injection hv210_0 with hva_ hvn_ hvc_
                        rw [hva_] at ge210_0
                        rw [hvc_] at ul210_0
                        have HL210_0 := Aside0.mk (show Kd.V k42 42 _ w.heap.size _ _ (rd_L4 l0 x6_1) from Kd.V_mk ul210_0 ge210_0)
                        clear hva_ hvn_ hvc_ ge210_0 ul210_0
                        clear hcc210 hce210
                        have HR210_0 := Aside0.mk hi210_0
                        have HC210_0 := Aside0.mk hl210_0
                        clear hi210_0 hl210_0
                        replace p210 := eq_true p210
                        replace q210 := eq_true q210
                        have p211 : 0 ≤ ((ji8) : Int) := of_decide_eq_true (by first | (with_reducible assumption) | assumption)
                        have q211 : (ji8) < (x5_1.length : Int) := of_decide_eq_true (by first | (with_reducible assumption) | assumption)
                        obtain ⟨ad211, A211_0, c211_0, e211, hx211_0, hl211_0, hi211_0⟩ := at_L4 (Kd.N_reads' HO_5.out).2.2 (ji8) p211 q211
                        cases e211
                        obtain ⟨ce211, hce211, hMe211, hcc211⟩ := Kd.N_get HO_5.out [] (ji8) p211 (by first | exact q211 | exact of_decide_eq_true (by first | (with_reducible assumption) | assumption) | (have e_ := (Kd.N_reads' HO_5.out).1; omega))
                        obtain ⟨ua211_0, uc211_0, rfl, ul211_0, ge211_0⟩ := Kd.FK_slice_open hMe211
                        have hv211_0 := hcc211 0 _ rfl
                        rw [Nat.add_zero, show ((Kd.slice 42 k42)).sz = 1 from rfl, Nat.mul_one] at hv211_0
                        replace hv211_0 := Option.some.inj (hv211_0.symm.trans hx211_0)
                        injection hv211_0 with hva_ hvn_ hvc_
                        rw [hva_] at ge211_0
                        rw [hvc_] at ul211_0
                        have HL211_0 := Aside0.mk (show Kd.V k42 42 _ w.heap.size _ _ (rd_L4 x5_1 (ji8)) from Kd.V_mk ul211_0 ge211_0)
                        clear hva_ hvn_ hvc_ ge211_0 ul211_0
                        clear hcc211 hce211
                        have HR211_0 := Aside0.mk hi211_0
                        have HC211_0 := Aside0.mk hl211_0
                        clear hi211_0 hl211_0
                        replace p211 := eq_true p211
                        replace q211 := eq_true q211
                        refine start_ (n := 12) (S := fun w' => w'.cell? (ad210.add (x6_1).toNat) = some (.slice A210_0 (rd_L4 l0 x6_1).length c210_0) ∧ w'.cell? (ad211.add ((ji8)).toNat) = some (.slice A211_0 (rd_L4 x5_1 (ji8)).length c211_0)) (ds := []) #[false, false, false, false, false, false, false, false, false, false, false, false] (by kernel_rfl) rfl rfl ⟨hx210_0, hx211_0⟩ (fun hHeld => ?_); refine with_tabW hayloftref15_Sort.tab7 hayloftref15_Sort.bits7 (fun HT_ HW_ => ?_)
                        generalize wr.drew = w13 at HO_0 HO_5 HB HL210_0 HL211_0 HR210_0 HR211_0 hx210_0 hx211_0 hHeld ⊢
                        refine pure_ (i := 0) (N := some 20) (v := ?_) (a' := ?_) #[true, false, false, false, false, false, false, false, false, false, false, false] rfl rfl (any_of HT_.out (by kernel_rfl)) (fun _ _ _ h => h) (Or.inl ⟨by rfl, ?_⟩) ?_ ?_
                        rotate_left
                        · intro w'
                          go_simp
                          with_reducible rfl
                        rotate_left
                        · simp only [Act.put, List.setIfInBounds_toArray, List.set_cons_zero, List.set_cons_succ, i64_w, i32_w]
                          rfl
                        refine pure_ (i := 1) (N := some 21) (v := ?_) (a' := ?_) #[true, true, false, false, false, false, false, false, false, false, false, false] rfl rfl (any_of HT_.out (by kernel_rfl)) (fun _ _ _ h => h) (Or.inl ⟨by rfl, ?_⟩) ?_ ?_
                        rotate_left
                        · intro w'
                          go_simp
                          with_reducible rfl
                        rotate_left
                        · simp only [Act.put, List.setIfInBounds_toArray, List.set_cons_zero, List.set_cons_succ, i64_w, i32_w]
                          rfl
                        refine pure_ (i := 2) (N := some 22) (v := ?_) (a' := ?_) #[true, true, true, false, false, false, false, false, false, false, false, false] rfl rfl (any_of HT_.out (by kernel_rfl)) (fun _ _ _ h => h) (Or.inl ⟨by rfl, ?_⟩) ?_ ?_
                        rotate_left
                        · intro w'
                          go_simp
                          with_reducible rfl
                        rotate_left
                        · simp only [Act.put, List.setIfInBounds_toArray, List.set_cons_zero, List.set_cons_succ, i64_w, i32_w]
                          rfl
                        refine pure_ (i := 4) (N := some 24) (v := ?_) (a' := ?_) #[true, true, true, false, true, false, false, false, false, false, false, false] rfl rfl (any_of HT_.out (by kernel_rfl)) (fun _ _ _ h => h) (Or.inl ⟨by rfl, ?_⟩) ?_ ?_
                        rotate_left
                        · intro w'
                          go_simp
                          with_reducible rfl
                        rotate_left
                        · simp only [Act.put, List.setIfInBounds_toArray, List.set_cons_zero, List.set_cons_succ, i64_w, i32_w]
                          rfl
                        refine pure_ (i := 5) (N := some 25) (v := ?_) (a' := ?_) #[true, true, true, false, true, true, false, false, false, false, false, false] rfl rfl (any_of HT_.out (by kernel_rfl)) (fun _ _ _ h => h) (Or.inl ⟨by rfl, ?_⟩) ?_ ?_
                        rotate_left
                        · intro w'
                          go_simp
                          with_reducible rfl
                        rotate_left
                        · simp only [Act.put, List.setIfInBounds_toArray, List.set_cons_zero, List.set_cons_succ, i64_w, i32_w]
                          rfl
                        refine pure_ (i := 6) (N := some 26) (v := ?_) (a' := ?_) #[true, true, true, false, true, true, true, false, false, false, false, false] rfl rfl (any_of HT_.out (by kernel_rfl)) (fun _ _ _ h => h) (Or.inl ⟨by rfl, ?_⟩) ?_ ?_
                        rotate_left
                        · intro w'
                          go_simp
                          with_reducible rfl
                        rotate_left
                        · simp only [Act.put, List.setIfInBounds_toArray, List.set_cons_zero, List.set_cons_succ, i64_w, i32_w]
                          rfl
                        refine pure_ (i := 7) (N := some 27) (v := ?_) (a' := ?_) #[true, true, true, false, true, true, true, true, false, false, false, false] rfl rfl (any_of HT_.out (by kernel_rfl)) (fun _ _ _ h => h) (Or.inl ⟨by rfl, ?_⟩) ?_ ?_
                        rotate_left
                        · intro w'
                          go_simp
                          with_reducible rfl
                        rotate_left
                        · simp only [Act.put, List.setIfInBounds_toArray, List.set_cons_zero, List.set_cons_succ, i64_w, i32_w]
                          rfl
                        refine pure_ (i := 9) (N := some 29) (v := ?_) (a' := ?_) #[true, true, true, false, true, true, true, true, false, true, false, false] rfl rfl (any_of HT_.out (by kernel_rfl)) (fun _ _ _ h => h) (Or.inl ⟨by rfl, ?_⟩) ?_ ?_
                        rotate_left
                        · intro w'
                          go_simp
                          with_reducible rfl
                        rotate_left
                        · simp only [Act.put, List.setIfInBounds_toArray, List.set_cons_zero, List.set_cons_succ, i64_w, i32_w]
                          rfl
                        refine take_ (i := 3) (N := some 23) (v := ?_) (a' := ?_) #[true, true, true, true, true, true, true, true, false, true, false, false] rfl rfl (take_ofW HT_.out HW_.out (by kernel_rfl)) (fun _ _ _ h => h) (Or.inl ⟨by rfl, ?_⟩) hHeld ?_ ?_
                        rotate_left
                        · rintro w' ⟨s0, s1⟩
                          go_simp
                          with_reducible rfl
                        rotate_left
                        · simp only [Act.put, List.setIfInBounds_toArray, List.set_cons_zero, List.set_cons_succ, i64_w, i32_w]
                          rfl
                        refine take_ (i := 8) (N := some 28) (v := ?_) (a' := ?_) #[true, true, true, true, true, true, true, true, true, true, false, false] rfl rfl (take_ofW HT_.out HW_.out (by kernel_rfl)) (fun _ _ _ h => h) (Or.inl ⟨by rfl, ?_⟩) hHeld ?_ ?_
                        rotate_left
                        · rintro w' ⟨s0, s1⟩
                          go_simp
                          with_reducible rfl
                        rotate_left
                        · simp only [Act.put, List.setIfInBounds_toArray, List.set_cons_zero, List.set_cons_succ, i64_w, i32_w]
                          rfl
                        refine one_ (i := 10) (N := some 30) #[true, true, true, true, true, true, true, true, true, true, true, false] rfl rfl (one_of HT_.out (by kernel_rfl)) (by decide) (fun K hK => ?_)
                        refine goes_ Try.func52 (by kernel_rfl) rfl #[.slice A210_0 (rd_L4 l0 x6_1).length c210_0, .slice A211_0 (rd_L4 x5_1 (ji8)).length c211_0, .slice A1 l1.length c1] (by rfl) rfl rfl (by (try simp only [List.map_toArray, List.map_cons, List.map_nil]); first | done | (simp only [hji8]; rfl) | rfl | (simp only [List.length_drop, List.length_take]; rfl)) ?_
                        with_reducible refine (hayloftref15_ahead.calls k2 _ _ (rd_L4 l0 x6_1) _ _ (rd_L4 x5_1 (ji8)) _ _ l1 true _ ?side1 ?side2 ?side3 ?side4 ?side5 ?side6 A11.out).mono ?_
                        (case side1 => repeat (first | exact (by repeat (first | (with_reducible exact HR210_0.out) | (with_reducible refine Kd.C_alloc ?_ _) | (with_reducible refine Kd.C_drewN ?_ _) | (with_reducible refine Kd.C_drew ?_) | exact HR210_0.out)) | (with_reducible refine Kd.C_alloc ?_ _) | (with_reducible refine Kd.C_drewN ?_ _) | (with_reducible refine Kd.C_drew ?_)))
                        (case side2 => exact HC210_0.out)
                        (case side3 => repeat (first | exact (by repeat (first | (with_reducible exact HR211_0.out) | (with_reducible refine Kd.C_alloc ?_ _) | (with_reducible refine Kd.C_drewN ?_ _) | (with_reducible refine Kd.C_drew ?_) | exact HR211_0.out)) | (with_reducible refine Kd.C_alloc ?_ _) | (with_reducible refine Kd.C_drewN ?_ _) | (with_reducible refine Kd.C_drew ?_)))
                        (case side4 => exact HC211_0.out)
                        (case side5 => repeat (first | exact (Kd.C_below HR1.out HB.out) | (with_reducible refine Kd.C_alloc ?_ _) | (with_reducible refine Kd.C_drewN ?_ _) | (with_reducible refine Kd.C_drew ?_)))
                        (case side6 => exact HC1.out)
                        rintro e w14 ⟨rfl, hb⟩
                        have HS0_ := (hb.cell (World.block_lt_of_cell? _ _ (hHeld.1))).trans (hHeld.1)
                        have HS1_ := (hb.cell (World.block_lt_of_cell? _ _ (hHeld.2))).trans (hHeld.2)
                        refine ⟨_, rfl, ?_⟩
                        have n0_ := Aside0.mk (Kd.V_below (by (with_reducible repeat (first | apply Kd.V_alloc | apply Kd.V_drewN | apply Kd.V_drew)); exact HO_0.out) hb)
                        have n1_ := Aside0.mk (Kd.N_below (by (with_reducible repeat (first | apply Kd.N_alloc | apply Kd.N_drewN | apply Kd.N_drew)); exact HO_5.out) hb)
                        have n2_ := Aside0.mk (Kd.V_below (by (with_reducible repeat (first | apply Kd.V_alloc | apply Kd.V_drewN | apply Kd.V_drew)); exact HL210_0.out) hb)
                        have n3_ := Aside0.mk (Kd.V_below (by (with_reducible repeat (first | apply Kd.V_alloc | apply Kd.V_drewN | apply Kd.V_drew)); exact HL211_0.out) hb)
                        have n4_ := Aside0.mk (Kd.C_below (by repeat (first | (with_reducible exact HR210_0.out) | (with_reducible refine Kd.C_alloc ?_ _) | (with_reducible refine Kd.C_drewN ?_ _) | (with_reducible refine Kd.C_drew ?_) | exact HR210_0.out)) hb)
                        have n5_ := Aside0.mk (Kd.C_below (by repeat (first | (with_reducible exact HR211_0.out) | (with_reducible refine Kd.C_alloc ?_ _) | (with_reducible refine Kd.C_drewN ?_ _) | (with_reducible refine Kd.C_drew ?_) | exact HR211_0.out)) hb)
                        have n6_ := Aside0.mk (below_step (by repeat (first | (with_reducible first | exact HB.out | apply below_alloc | apply pw_below_drewN | apply below_drew1) | exact HB.out)) hb)
                        clear HO_0
                        clear HO_5
                        clear HL210_0
                        clear HL211_0
                        clear HR210_0
                        clear HR211_0
                        clear HB
                        have HO_0 := n0_
                        have HO_5 := n1_
                        have HL210_0 := n2_
                        have HL211_0 := n3_
                        have HR210_0 := n4_
                        have HR211_0 := n5_
                        have HB := n6_
                        clear n0_ n1_ n2_ n3_ n4_ n5_ n6_
                        (try clear hb)
                        (try clear hb2)
                        (try clear hk)
                        (try clear hi)
                        refine hK.out _ _ ⟨HS0_, HS1_⟩ (fun hHeld => ?_)
                        clear hK K
                        refine norm_ (a' := ?_) ?_ ?_
                        rotate_left
                        · show Act.put _ (some 30) _ = _
                          simp only [Act.put, List.setIfInBounds_toArray, List.set_cons_zero, List.set_cons_succ, i64_w, i32_w]
                          rfl
                        refine pure_ (i := 11) (N := some 8) (v := ?_) (a' := ?_) #[true, true, true, true, true, true, true, true, true, true, true, true] rfl rfl (any_of HT_.out (by kernel_rfl)) (fun _ _ _ h => h) (Or.inl ⟨by rfl, ?_⟩) ?_ ?_
                        rotate_left
                        · intro w'
                          go_simp
                          with_reducible rfl
                        rotate_left
                        · simp only [Act.put, List.setIfInBounds_toArray, List.set_cons_zero, List.set_cons_succ, i64_w, i32_w]
                          rfl
                        refine done_ (done_of HT_.out (by kernel_rfl)) ?_
                        try go_wp2
                        go_roundg k2
                        case measure => have := HK1.out; have := HK2.out; omega
                        case rel => exact ⟨(ji8), (by first | rfl | (simp; done) | (simp only [← hji8] <;> (first | rfl | simp)) | (simp [*]; done)), H', ⟨by have := HK1.out; have := HK2.out; omega⟩, ⟨by (with_reducible repeat (first | apply Kd.V_alloc | apply Kd.V_drewN | apply Kd.V_drew)); exact HO_0.out⟩, ⟨by (with_reducible repeat (first | apply Kd.N_alloc | apply Kd.N_drewN | apply Kd.N_drew)); exact HO_5.out⟩, ⟨by repeat (first | (with_reducible first | exact HB.out | apply below_alloc | apply pw_below_drewN | apply below_drew1) | exact HB.out)⟩⟩
                      · replace c12 := Bool.eq_false_iff.mpr c12
                        subst c12
                        have H1 : (if 0 ≤ x7_2 then (if x7_2 ≤ (x5_1.length : Int) then ((some (x5_1.take (x7_2 : Int).toNat : List (List (S42)))).bind fun y213 => (if ([] : List (List (S42))).length + y213.length < 5864062014805 then ((some (([] : List (List (S42))) ++ y213 : List (List (S42)))).bind fun y218 => (if y218.length < 5864062014805 then ((some (y218 ++ [rd_L4 l0 x6_1] : List (List (S42)))).bind fun y222 => ((some (x5_1.drop (x7_2 : Int).toNat : List (List (S42)))).bind fun y225 => (if y222.length + y225.length < 5864062014805 then (hayloftref15_Sort.l0 k2 l0 l1 (y222 ++ y225) (wrap64 (x6_1 + 1))) else (none)))) else (none))) else (none))) else (none)) else (none)) = some r := by rw [if_neg (show ¬ (false = true) by decide)] at H; exact H
                        clear H
                        have H := H1
                        clear H1
                        by_cases c15 : 0 ≤ x7_2
                        · rw [if_pos c15] at H
                          have c15b0 := eq_true c15
                          have c15b1 : decide (0 ≤ x7_2) = true := decide_eq_true c15
                          clear c15
                          by_cases c16 : x7_2 ≤ (x5_1.length : Int)
                          · rw [if_pos c16] at H
                            have c16b0 := eq_true c16
                            have c16b1 : decide (x7_2 ≤ (x5_1.length : Int)) = true := decide_eq_true c16
                            clear c16
                            obtain ⟨y213, hy213⟩ : ∃ y_ : List (List (S42)), y_ = (x5_1.take (x7_2 : Int).toNat) := ⟨_, rfl⟩
                            replace H : (if ([] : List (List (S42))).length + y213.length < 5864062014805 then ((some (([] : List (List (S42))) ++ y213 : List (List (S42)))).bind fun y218 => (if y218.length < 5864062014805 then ((some (y218 ++ [rd_L4 l0 x6_1] : List (List (S42)))).bind fun y222 => ((some (x5_1.drop (x7_2 : Int).toNat : List (List (S42)))).bind fun y225 => (if y222.length + y225.length < 5864062014805 then (hayloftref15_Sort.l0 k2 l0 l1 (y222 ++ y225) (wrap64 (x6_1 + 1))) else (none)))) else (none))) else (none)) = some r := by first | (rw [hy213]; with_reducible exact H) | (have H2_ := (Option.bind_some _ _).symm.trans H; rw [hy213]; with_reducible exact H2_) | (have H2_ := (Option.bind_some _ _).symm.trans H; with_reducible exact H2_) | with_reducible exact H | (rw [hy213]; exact H) | exact H
                            have Ny213 := Aside0.mk hy213
                            clear hy213
                            by_cases c17 : ([] : List (List (S42))).length + y213.length < 5864062014805
                            · rw [if_pos c17] at H
                              have LMc17 := Aside0.mk c17
                              clear c17
                              obtain ⟨y218, hy218⟩ : ∃ y_ : List (List (S42)), y_ = (([] : List (List (S42))) ++ y213) := ⟨_, rfl⟩
                              replace H : (if y218.length < 5864062014805 then ((some (y218 ++ [rd_L4 l0 x6_1] : List (List (S42)))).bind fun y222 => ((some (x5_1.drop (x7_2 : Int).toNat : List (List (S42)))).bind fun y225 => (if y222.length + y225.length < 5864062014805 then (hayloftref15_Sort.l0 k2 l0 l1 (y222 ++ y225) (wrap64 (x6_1 + 1))) else (none)))) else (none)) = some r := by first | (rw [hy218]; with_reducible exact H) | (have H2_ := (Option.bind_some _ _).symm.trans H; rw [hy218]; with_reducible exact H2_) | (have H2_ := (Option.bind_some _ _).symm.trans H; with_reducible exact H2_) | with_reducible exact H | (rw [hy218]; exact H) | exact H
                              have Ny218 := Aside0.mk hy218
                              clear hy218
                              by_cases c18 : y218.length < 5864062014805
                              · rw [if_pos c18] at H
                                have LMc18 := Aside0.mk c18
                                clear c18
                                obtain ⟨y222, hy222⟩ : ∃ y_ : List (List (S42)), y_ = (y218 ++ [rd_L4 l0 x6_1]) := ⟨_, rfl⟩
                                replace H : ((some (x5_1.drop (x7_2 : Int).toNat : List (List (S42)))).bind fun y225 => (if y222.length + y225.length < 5864062014805 then (hayloftref15_Sort.l0 k2 l0 l1 (y222 ++ y225) (wrap64 (x6_1 + 1))) else (none))) = some r := by first | (rw [hy222]; with_reducible exact H) | (have H2_ := (Option.bind_some _ _).symm.trans H; rw [hy222]; with_reducible exact H2_) | (have H2_ := (Option.bind_some _ _).symm.trans H; with_reducible exact H2_) | with_reducible exact H | (rw [hy222]; exact H) | exact H
                                have Ny222 := Aside0.mk hy222
                                clear hy222
                                have c19b0 := eq_true (of_decide_eq_true (by first | (with_reducible assumption) | assumption) : 0 ≤ x7_2)
                                have c20b0 := eq_true (of_decide_eq_true (by first | (with_reducible assumption) | assumption) : x7_2 ≤ (x5_1.length : Int))
                                obtain ⟨y225, hy225⟩ : ∃ y_ : List (List (S42)), y_ = (x5_1.drop (x7_2 : Int).toNat) := ⟨_, rfl⟩
                                replace H : (if y222.length + y225.length < 5864062014805 then (hayloftref15_Sort.l0 k2 l0 l1 (y222 ++ y225) (wrap64 (x6_1 + 1))) else (none)) = some r := by first | (rw [hy225]; with_reducible exact H) | (have H2_ := (Option.bind_some _ _).symm.trans H; rw [hy225]; with_reducible exact H2_) | (have H2_ := (Option.bind_some _ _).symm.trans H; with_reducible exact H2_) | with_reducible exact H | (rw [hy225]; exact H) | exact H
                                have Ny225 := Aside0.mk hy225
                                clear hy225
                                by_cases c21 : y222.length + y225.length < 5864062014805
                                · rw [if_pos c21] at H
                                  have LMc21 := Aside0.mk c21
                                  clear c21
                                  obtain ⟨y230, hy230⟩ : ∃ y_ : List (List (S42)), y_ = (y222 ++ y225) := ⟨_, rfl⟩
                                  replace H : (hayloftref15_Sort.l0 k2 l0 l1 y230 (wrap64 (x6_1 + 1))) = some r := by first | (rw [hy230]; with_reducible exact H) | (have H2_ := (Option.bind_some _ _).symm.trans H; rw [hy230]; with_reducible exact H2_) | (have H2_ := (Option.bind_some _ _).symm.trans H; with_reducible exact H2_) | with_reducible exact H | (rw [hy230]; exact H) | exact H
                                  have Ny230 := Aside0.mk hy230
                                  clear hy230
                                  have H' := Aside0.mk H
                                  clear H
                                  try go_wp2
                                  have n0_ := Aside0.mk (Kd.V_drew HO_0.out)
                                  have n1_ := Aside0.mk (Kd.N_drew HO_5.out)
                                  have n2_ := Aside0.mk (below_drew1 HB.out)
                                  clear HO_0
                                  clear HO_5
                                  clear HB
                                  have HO_0 := n0_
                                  have HO_5 := n1_
                                  have HB := n2_
                                  clear n0_ n1_ n2_
                                  have p210 : 0 ≤ (x6_1 : Int) := of_decide_eq_true (by first | (with_reducible assumption) | assumption)
                                  have q210 : x6_1 < (l0.length : Int) := of_decide_eq_true (by first | (with_reducible assumption) | assumption)
                                  obtain ⟨ad210, A210_0, c210_0, e210, hx210_0, hl210_0, hi210_0⟩ := at_L4 (Kd.V_reads' HO_0.out).2.2 x6_1 p210 q210
                                  cases e210
                                  obtain ⟨ce210, hce210, hMe210, hcc210⟩ := Kd.V_get HO_0.out [] x6_1 p210 (by first | exact q210 | exact of_decide_eq_true (by first | (with_reducible assumption) | assumption) | (have e_ := (Kd.V_reads' HO_0.out).1; omega))
                                  obtain ⟨ua210_0, uc210_0, rfl, ul210_0, ge210_0⟩ := Kd.FK_slice_open hMe210
                                  have hv210_0 := hcc210 0 _ rfl
                                  rw [Nat.add_zero, show ((Kd.slice 42 k42)).sz = 1 from rfl, Nat.mul_one] at hv210_0
                                  replace hv210_0 := Option.some.inj (hv210_0.symm.trans hx210_0)
                                  injection hv210_0 with hva_ hvn_ hvc_
                                  rw [hva_] at ge210_0
                                  rw [hvc_] at ul210_0
                                  have HL210_0 := Aside0.mk (show Kd.V k42 42 _ w.heap.size _ _ (rd_L4 l0 x6_1) from Kd.V_mk ul210_0 ge210_0)
                                  clear hva_ hvn_ hvc_ ge210_0 ul210_0
                                  clear hcc210 hce210
                                  have HR210_0 := Aside0.mk hi210_0
                                  have HC210_0 := Aside0.mk hl210_0
                                  clear hi210_0 hl210_0
                                  replace p210 := eq_true p210
                                  replace q210 := eq_true q210
                                  have p211 : 0 ≤ ((ji8) : Int) := of_decide_eq_true (by first | (with_reducible assumption) | assumption)
                                  have q211 : (ji8) < (x5_1.length : Int) := of_decide_eq_true (by first | (with_reducible assumption) | assumption)
                                  obtain ⟨ad211, A211_0, c211_0, e211, hx211_0, hl211_0, hi211_0⟩ := at_L4 (Kd.N_reads' HO_5.out).2.2 (ji8) p211 q211
                                  cases e211
                                  obtain ⟨ce211, hce211, hMe211, hcc211⟩ := Kd.N_get HO_5.out [] (ji8) p211 (by first | exact q211 | exact of_decide_eq_true (by first | (with_reducible assumption) | assumption) | (have e_ := (Kd.N_reads' HO_5.out).1; omega))
                                  obtain ⟨ua211_0, uc211_0, rfl, ul211_0, ge211_0⟩ := Kd.FK_slice_open hMe211
                                  have hv211_0 := hcc211 0 _ rfl
                                  rw [Nat.add_zero, show ((Kd.slice 42 k42)).sz = 1 from rfl, Nat.mul_one] at hv211_0
                                  replace hv211_0 := Option.some.inj (hv211_0.symm.trans hx211_0)
                                  injection hv211_0 with hva_ hvn_ hvc_
                                  rw [hva_] at ge211_0
                                  rw [hvc_] at ul211_0
                                  have HL211_0 := Aside0.mk (show Kd.V k42 42 _ w.heap.size _ _ (rd_L4 x5_1 (ji8)) from Kd.V_mk ul211_0 ge211_0)
                                  clear hva_ hvn_ hvc_ ge211_0 ul211_0
                                  clear hcc211 hce211
                                  have HR211_0 := Aside0.mk hi211_0
                                  have HC211_0 := Aside0.mk hl211_0
                                  clear hi211_0 hl211_0
                                  replace p211 := eq_true p211
                                  replace q211 := eq_true q211
                                  refine start_ (n := 12) (S := fun w' => w'.cell? (ad210.add (x6_1).toNat) = some (.slice A210_0 (rd_L4 l0 x6_1).length c210_0) ∧ w'.cell? (ad211.add ((ji8)).toNat) = some (.slice A211_0 (rd_L4 x5_1 (ji8)).length c211_0)) (ds := []) #[false, false, false, false, false, false, false, false, false, false, false, false] (by kernel_rfl) rfl rfl ⟨hx210_0, hx211_0⟩ (fun hHeld => ?_); refine with_tabW hayloftref15_Sort.tab7 hayloftref15_Sort.bits7 (fun HT_ HW_ => ?_)
                                  generalize wr.drew = w22 at HO_0 HO_5 HB HL210_0 HL211_0 HR210_0 HR211_0 hx210_0 hx211_0 hHeld ⊢
                                  refine pure_ (i := 0) (N := some 20) (v := ?_) (a' := ?_) #[true, false, false, false, false, false, false, false, false, false, false, false] rfl rfl (any_of HT_.out (by kernel_rfl)) (fun _ _ _ h => h) (Or.inl ⟨by rfl, ?_⟩) ?_ ?_
                                  rotate_left
                                  · intro w'
                                    go_simp
                                    with_reducible rfl
                                  rotate_left
                                  · simp only [Act.put, List.setIfInBounds_toArray, List.set_cons_zero, List.set_cons_succ, i64_w, i32_w]
                                    rfl
                                  refine pure_ (i := 1) (N := some 21) (v := ?_) (a' := ?_) #[true, true, false, false, false, false, false, false, false, false, false, false] rfl rfl (any_of HT_.out (by kernel_rfl)) (fun _ _ _ h => h) (Or.inl ⟨by rfl, ?_⟩) ?_ ?_
                                  rotate_left
                                  · intro w'
                                    go_simp
                                    with_reducible rfl
                                  rotate_left
                                  · simp only [Act.put, List.setIfInBounds_toArray, List.set_cons_zero, List.set_cons_succ, i64_w, i32_w]
                                    rfl
                                  refine pure_ (i := 2) (N := some 22) (v := ?_) (a' := ?_) #[true, true, true, false, false, false, false, false, false, false, false, false] rfl rfl (any_of HT_.out (by kernel_rfl)) (fun _ _ _ h => h) (Or.inl ⟨by rfl, ?_⟩) ?_ ?_
                                  rotate_left
                                  · intro w'
                                    go_simp
                                    with_reducible rfl
                                  rotate_left
                                  · simp only [Act.put, List.setIfInBounds_toArray, List.set_cons_zero, List.set_cons_succ, i64_w, i32_w]
                                    rfl
                                  refine pure_ (i := 4) (N := some 24) (v := ?_) (a' := ?_) #[true, true, true, false, true, false, false, false, false, false, false, false] rfl rfl (any_of HT_.out (by kernel_rfl)) (fun _ _ _ h => h) (Or.inl ⟨by rfl, ?_⟩) ?_ ?_
                                  rotate_left
                                  · intro w'
                                    go_simp
                                    with_reducible rfl
                                  rotate_left
                                  · simp only [Act.put, List.setIfInBounds_toArray, List.set_cons_zero, List.set_cons_succ, i64_w, i32_w]
                                    rfl
                                  refine pure_ (i := 5) (N := some 25) (v := ?_) (a' := ?_) #[true, true, true, false, true, true, false, false, false, false, false, false] rfl rfl (any_of HT_.out (by kernel_rfl)) (fun _ _ _ h => h) (Or.inl ⟨by rfl, ?_⟩) ?_ ?_
                                  rotate_left
                                  · intro w'
                                    go_simp
                                    with_reducible rfl
                                  rotate_left
                                  · simp only [Act.put, List.setIfInBounds_toArray, List.set_cons_zero, List.set_cons_succ, i64_w, i32_w]
                                    rfl
                                  refine pure_ (i := 6) (N := some 26) (v := ?_) (a' := ?_) #[true, true, true, false, true, true, true, false, false, false, false, false] rfl rfl (any_of HT_.out (by kernel_rfl)) (fun _ _ _ h => h) (Or.inl ⟨by rfl, ?_⟩) ?_ ?_
                                  rotate_left
                                  · intro w'
                                    go_simp
                                    with_reducible rfl
                                  rotate_left
                                  · simp only [Act.put, List.setIfInBounds_toArray, List.set_cons_zero, List.set_cons_succ, i64_w, i32_w]
                                    rfl
                                  refine pure_ (i := 7) (N := some 27) (v := ?_) (a' := ?_) #[true, true, true, false, true, true, true, true, false, false, false, false] rfl rfl (any_of HT_.out (by kernel_rfl)) (fun _ _ _ h => h) (Or.inl ⟨by rfl, ?_⟩) ?_ ?_
                                  rotate_left
                                  · intro w'
                                    go_simp
                                    with_reducible rfl
                                  rotate_left
                                  · simp only [Act.put, List.setIfInBounds_toArray, List.set_cons_zero, List.set_cons_succ, i64_w, i32_w]
                                    rfl
                                  refine pure_ (i := 9) (N := some 29) (v := ?_) (a' := ?_) #[true, true, true, false, true, true, true, true, false, true, false, false] rfl rfl (any_of HT_.out (by kernel_rfl)) (fun _ _ _ h => h) (Or.inl ⟨by rfl, ?_⟩) ?_ ?_
                                  rotate_left
                                  · intro w'
                                    go_simp
                                    with_reducible rfl
                                  rotate_left
                                  · simp only [Act.put, List.setIfInBounds_toArray, List.set_cons_zero, List.set_cons_succ, i64_w, i32_w]
                                    rfl
                                  refine take_ (i := 3) (N := some 23) (v := ?_) (a' := ?_) #[true, true, true, true, true, true, true, true, false, true, false, false] rfl rfl (take_ofW HT_.out HW_.out (by kernel_rfl)) (fun _ _ _ h => h) (Or.inl ⟨by rfl, ?_⟩) hHeld ?_ ?_
                                  rotate_left
                                  · rintro w' ⟨s0, s1⟩
                                    go_simp
                                    with_reducible rfl
                                  rotate_left
                                  · simp only [Act.put, List.setIfInBounds_toArray, List.set_cons_zero, List.set_cons_succ, i64_w, i32_w]
                                    rfl
                                  refine take_ (i := 8) (N := some 28) (v := ?_) (a' := ?_) #[true, true, true, true, true, true, true, true, true, true, false, false] rfl rfl (take_ofW HT_.out HW_.out (by kernel_rfl)) (fun _ _ _ h => h) (Or.inl ⟨by rfl, ?_⟩) hHeld ?_ ?_
                                  rotate_left
                                  · rintro w' ⟨s0, s1⟩
                                    go_simp
                                    with_reducible rfl
                                  rotate_left
                                  · simp only [Act.put, List.setIfInBounds_toArray, List.set_cons_zero, List.set_cons_succ, i64_w, i32_w]
                                    rfl
                                  refine one_ (i := 10) (N := some 30) #[true, true, true, true, true, true, true, true, true, true, true, false] rfl rfl (one_of HT_.out (by kernel_rfl)) (by decide) (fun K hK => ?_)
                                  refine goes_ Try.func52 (by kernel_rfl) rfl #[.slice A210_0 (rd_L4 l0 x6_1).length c210_0, .slice A211_0 (rd_L4 x5_1 (ji8)).length c211_0, .slice A1 l1.length c1] (by rfl) rfl rfl (by (try simp only [List.map_toArray, List.map_cons, List.map_nil]); first | done | (simp only [hji8]; rfl) | rfl | (simp only [List.length_drop, List.length_take]; rfl)) ?_
                                  with_reducible refine (hayloftref15_ahead.calls k2 _ _ (rd_L4 l0 x6_1) _ _ (rd_L4 x5_1 (ji8)) _ _ l1 false _ ?side1 ?side2 ?side3 ?side4 ?side5 ?side6 A11.out).mono ?_
                                  (case side1 => repeat (first | exact (by repeat (first | (with_reducible exact HR210_0.out) | (with_reducible refine Kd.C_alloc ?_ _) | (with_reducible refine Kd.C_drewN ?_ _) | (with_reducible refine Kd.C_drew ?_) | exact HR210_0.out)) | (with_reducible refine Kd.C_alloc ?_ _) | (with_reducible refine Kd.C_drewN ?_ _) | (with_reducible refine Kd.C_drew ?_)))
                                  (case side2 => exact HC210_0.out)
                                  (case side3 => repeat (first | exact (by repeat (first | (with_reducible exact HR211_0.out) | (with_reducible refine Kd.C_alloc ?_ _) | (with_reducible refine Kd.C_drewN ?_ _) | (with_reducible refine Kd.C_drew ?_) | exact HR211_0.out)) | (with_reducible refine Kd.C_alloc ?_ _) | (with_reducible refine Kd.C_drewN ?_ _) | (with_reducible refine Kd.C_drew ?_)))
                                  (case side4 => exact HC211_0.out)
                                  (case side5 => repeat (first | exact (Kd.C_below HR1.out HB.out) | (with_reducible refine Kd.C_alloc ?_ _) | (with_reducible refine Kd.C_drewN ?_ _) | (with_reducible refine Kd.C_drew ?_)))
                                  (case side6 => exact HC1.out)
                                  rintro e w23 ⟨rfl, hb⟩
                                  have HS0_ := (hb.cell (World.block_lt_of_cell? _ _ (hHeld.1))).trans (hHeld.1)
                                  have HS1_ := (hb.cell (World.block_lt_of_cell? _ _ (hHeld.2))).trans (hHeld.2)
                                  refine ⟨_, rfl, ?_⟩
                                  have n0_ := Aside0.mk (Kd.V_below (by (with_reducible repeat (first | apply Kd.V_alloc | apply Kd.V_drewN | apply Kd.V_drew)); exact HO_0.out) hb)
                                  have n1_ := Aside0.mk (Kd.N_below (by (with_reducible repeat (first | apply Kd.N_alloc | apply Kd.N_drewN | apply Kd.N_drew)); exact HO_5.out) hb)
                                  have n2_ := Aside0.mk (Kd.V_below (by (with_reducible repeat (first | apply Kd.V_alloc | apply Kd.V_drewN | apply Kd.V_drew)); exact HL210_0.out) hb)
                                  have n3_ := Aside0.mk (Kd.V_below (by (with_reducible repeat (first | apply Kd.V_alloc | apply Kd.V_drewN | apply Kd.V_drew)); exact HL211_0.out) hb)
                                  have n4_ := Aside0.mk (Kd.C_below (by repeat (first | (with_reducible exact HR210_0.out) | (with_reducible refine Kd.C_alloc ?_ _) | (with_reducible refine Kd.C_drewN ?_ _) | (with_reducible refine Kd.C_drew ?_) | exact HR210_0.out)) hb)
                                  have n5_ := Aside0.mk (Kd.C_below (by repeat (first | (with_reducible exact HR211_0.out) | (with_reducible refine Kd.C_alloc ?_ _) | (with_reducible refine Kd.C_drewN ?_ _) | (with_reducible refine Kd.C_drew ?_) | exact HR211_0.out)) hb)
                                  have n6_ := Aside0.mk (below_step (by repeat (first | (with_reducible first | exact HB.out | apply below_alloc | apply pw_below_drewN | apply below_drew1) | exact HB.out)) hb)
                                  clear HO_0
                                  clear HO_5
                                  clear HL210_0
                                  clear HL211_0
                                  clear HR210_0
                                  clear HR211_0
                                  clear HB
                                  have HO_0 := n0_
                                  have HO_5 := n1_
                                  have HL210_0 := n2_
                                  have HL211_0 := n3_
                                  have HR210_0 := n4_
                                  have HR211_0 := n5_
                                  have HB := n6_
                                  clear n0_ n1_ n2_ n3_ n4_ n5_ n6_
                                  (try clear hb)
                                  (try clear hb2)
                                  (try clear hk)
                                  (try clear hi)
                                  refine hK.out _ _ ⟨HS0_, HS1_⟩ (fun hHeld => ?_)
                                  clear hK K
                                  refine norm_ (a' := ?_) ?_ ?_
                                  rotate_left
                                  · show Act.put _ (some 30) _ = _
                                    simp only [Act.put, List.setIfInBounds_toArray, List.set_cons_zero, List.set_cons_succ, i64_w, i32_w]
                                    rfl
                                  refine pure_ (i := 11) (N := some 8) (v := ?_) (a' := ?_) #[true, true, true, true, true, true, true, true, true, true, true, true] rfl rfl (any_of HT_.out (by kernel_rfl)) (fun _ _ _ h => h) (Or.inl ⟨by rfl, ?_⟩) ?_ ?_
                                  rotate_left
                                  · intro w'
                                    go_simp
                                    with_reducible rfl
                                  rotate_left
                                  · simp only [Act.put, List.setIfInBounds_toArray, List.set_cons_zero, List.set_cons_succ, i64_w, i32_w]
                                    rfl
                                  refine done_ (done_of HT_.out (by kernel_rfl)) ?_
                                  have q24 : (x7_2 : Int) ≤ ((x5_1.length : Int) : Int) := of_decide_eq_true (by first | (with_reducible assumption) | assumption)
                                  obtain ⟨i024, hi024, _, hsz24, _⟩ := info_parts info31
                                  have hroom24 : x5_1.length ≤ co4 := (Kd.N_reads' HO_5.out).2.1
                                  have hC24 : Kd.F (Kd.slice 42 k42) _ _ (some ad211) x5_1.length x5_1 := (Kd.V_at (base := w.heap.size) (Kd.N_V HO_5.out)).2.2
                                  have hcut24 := cut_to (P := Try.prog) 22 31 .i64 Try.underlying22 hi024 (some ad211) x5_1.length co4 x7_2 (of_decide_eq_true (by first | (with_reducible assumption) | assumption)) q24 hroom24
                                  have hr24 := Kd.F_take (m := (x7_2 : Int).toNat) hC24 (by omega)
                                  have hy24 : y213.length = (x7_2 : Int).toNat := (by rw [Ny213.out, List.length_take]; omega)
                                  rw [← Ny213.out] at hr24
                                  rw [← hy24] at hcut24
                                  have HO217 := Aside0.mk (show Kd.V (Kd.slice 42 k42) 31 _ w.heap.size _ (.slice (some ad211) y213.length co4) y213 from Kd.V_mk (by omega) hr24)
                                  have HC217 := Aside0.mk (show y213.length ≤ co4 from by omega)
                                  clear hr24 hC24 hroom24 hi024 hsz24
                                  have KY24 := Aside0.mk hy24
                                  clear hy24
                                  replace q24 := eq_true q24
                                  try go_wp2_with (first | ((with_reducible refine gate_builtin (b := .append) (xs := #[.tmp 35, .tmp 38]) rfl ?_); at_builtin; refine Kd.N_append_rows (Kd.slice 42 k42) (w0 := w) w.heap.size rfl (.tmp 35) (.tmp 38) 22 31 (.slice none 0 0) 24 rfl Try.underlying22 info31 rfl (by decide) (by omega) (.slice none 0 0) ([] : List (List (S42))) y213 _ _ _ (fun k_ => (P0_ k_ ∨ w.heap.size ≤ k_)) (fun k_ => ((fun k_ => (P0_ k_ ∨ w.heap.size ≤ k_))) k_ ∧ some k_ ≠ (.slice none 0 0 : Value).ownBlock) rfl rfl ?aO ?aR (fun _ hk => hk) ?aF ?aB ?aS ?aL ?_; (case aR => exact (by skip; exact Kd.V_F (Kd.V_mono (ok' := (fun k_ => ((fun k_ => (P0_ k_ ∨ w.heap.size ≤ k_))) k_ ∧ some k_ ≠ (.slice none 0 0 : Value).ownBlock)) (HO217.out) (fun k_ hk => ⟨hk, (by simp [Value.ownBlock])⟩)))); (case aB => exact (by repeat (first | (with_reducible first | exact HB.out | apply below_alloc | apply pw_below_drewN | apply below_drew1) | exact HB.out))); (case aF => exact (fun k_ hk => (.inr (Nat.le_trans (below_size (by repeat (first | (with_reducible first | exact HB.out | apply below_alloc | apply pw_below_drewN | apply below_drew1) | exact HB.out))) hk)))); (case aO => exact ((Kd.N_nil _ _ _ _ (fun k_ => (P0_ k_ ∨ w.heap.size ≤ k_))))); (case aS => exact (below_size (by repeat (first | (with_reducible first | exact HB.out | apply below_alloc | apply pw_below_drewN | apply below_drew1) | exact HB.out)))); (case aL => have := LMc17.out; omega); intro v219 w25 ho hb hg hat; rw [← Ny218.out] at ho; have n0_ := Aside0.mk (Kd.V_afterv (Kd.V_apart_nil (by (with_reducible repeat (first | apply Kd.V_alloc | apply Kd.V_drewN | apply Kd.V_drew)); exact HO_0.out)) hg hat); have n1_ := Aside0.mk (Kd.N_afterv (Kd.N_apart_nil (by (with_reducible repeat (first | apply Kd.N_alloc | apply Kd.N_drewN | apply Kd.N_drew)); exact HO_5.out)) hg hat); have n2_ := Aside0.mk (Kd.V_afterv (Kd.V_apart_nil (by (with_reducible repeat (first | apply Kd.V_alloc | apply Kd.V_drewN | apply Kd.V_drew)); exact HL210_0.out)) hg hat); have n3_ := Aside0.mk (Kd.V_afterv (Kd.V_apart_nil (by (with_reducible repeat (first | apply Kd.V_alloc | apply Kd.V_drewN | apply Kd.V_drew)); exact HL211_0.out)) hg hat); have n4_ := Aside0.mk (Kd.V_afterv (Kd.V_apart_nil (by (with_reducible repeat (first | apply Kd.V_alloc | apply Kd.V_drewN | apply Kd.V_drew)); exact HO217.out)) hg hat); have n5_ := Aside0.mk (hb); have n6_ := Aside0.mk (ho); clear HO_0; clear HO_5; clear HL210_0; clear HL211_0; clear HO217; clear HB; have HO_0 := n0_; have HO_5 := n1_; have HL210_0 := n2_; have HL211_0 := n3_; have HO217 := n4_; have HB := n5_; have HO220 := n6_; clear n0_ n1_ n2_ n3_ n4_ n5_ n6_; clear ho hb hg hat; have p221 : 0 ≤ (x6_1 : Int) := of_decide_eq_true (by first | (with_reducible assumption) | assumption); have q221 : x6_1 < (l0.length : Int) := of_decide_eq_true (by first | (with_reducible assumption) | assumption); obtain ⟨ad221, A221_0, c221_0, e221, hx221_0, hl221_0, hi221_0⟩ := at_L4 (Kd.V_reads' HO_0.out).2.2 x6_1 p221 q221; obtain rfl : ad210 = ad221 := (by injection e221); obtain ⟨ce221, hce221, hMe221, hcc221⟩ := Kd.V_get HO_0.out [] x6_1 p221 (by first | exact q221 | exact of_decide_eq_true (by first | (with_reducible assumption) | assumption) | (have e_ := (Kd.V_reads' HO_0.out).1; omega)); obtain ⟨ua221_0, uc221_0, rfl, ul221_0, ge221_0⟩ := Kd.FK_slice_open hMe221; have hv221_0 := hcc221 0 _ rfl; rw [Nat.add_zero, show ((Kd.slice 42 k42)).sz = 1 from rfl, Nat.mul_one] at hv221_0; replace hv221_0 := Option.some.inj (hv221_0.symm.trans hx221_0); injection hv221_0 with hva_ hvn_ hvc_; rw [hva_] at ge221_0; rw [hvc_] at ul221_0; have HL221_0 := Aside0.mk (show Kd.V k42 42 _ w.heap.size _ _ (rd_L4 l0 x6_1) from Kd.V_mk ul221_0 ge221_0); clear hva_ hvn_ hvc_ ge221_0 ul221_0; clear hcc221 hce221; have HR221_0 := Aside0.mk hi221_0; have HC221_0 := Aside0.mk hl221_0; clear hi221_0 hl221_0; replace p221 := eq_true p221; replace q221 := eq_true q221) | ((with_reducible refine gate_builtin (b := .append) (xs := #[.tmp 40, .tmp 45]) rfl ?_); at_builtin; refine Kd.N_append (Kd.slice 42 k42) (w0 := w) w.heap.size rfl (.tmp 40) (.tmp 45) 22 31 (.slice none 0 0) 24 rfl Try.underlying22 info31 rfl (by decide) (by omega) v219 y218 (rd_L4 l0 x6_1) [.slice A221_0 (rd_L4 l0 x6_1).length c221_0] (fun k_ => (P0_ k_ ∨ w.heap.size ≤ k_)) (fun k_ => ((fun k_ => (P0_ k_ ∨ w.heap.size ≤ k_))) k_ ∧ some k_ ≠ (v219 : Value).ownBlock) rfl rfl ?aP (fun _ hk => hk) ?aF ?aO ?aB ?aS ?aL ?_; (case aP => exact (Kd.FK_slice_mk (Kd.V_reads' (Kd.V_mono (ok' := (fun k_ => ((fun k_ => (P0_ k_ ∨ w.heap.size ≤ k_))) k_ ∧ some k_ ≠ (v219 : Value).ownBlock)) (HL221_0.out) (fun k_ hk => ⟨hk.1.1, hk.2⟩))).2.1 (Kd.V_F (Kd.V_mono (ok' := (fun k_ => ((fun k_ => (P0_ k_ ∨ w.heap.size ≤ k_))) k_ ∧ some k_ ≠ (v219 : Value).ownBlock)) (HL221_0.out) (fun k_ hk => ⟨hk.1.1, hk.2⟩))))); (case aB => exact (by repeat (first | (with_reducible first | exact HB.out | apply below_alloc | apply pw_below_drewN | apply below_drew1) | exact HB.out))); (case aF => exact (fun k_ hk => (.inr (Nat.le_trans (below_size (by repeat (first | (with_reducible first | exact HB.out | apply below_alloc | apply pw_below_drewN | apply below_drew1) | exact HB.out))) hk)))); (case aO => exact (by (with_reducible repeat (first | apply Kd.N_alloc | apply Kd.N_drewN | apply Kd.N_drew)); exact HO220.out)); (case aS => exact (below_size (by repeat (first | (with_reducible first | exact HB.out | apply below_alloc | apply pw_below_drewN | apply below_drew1) | exact HB.out)))); (case aL => have := LMc18.out; omega); intro v223 w26 ho hb hg hat; rw [← Ny222.out] at ho; have n0_ := Aside0.mk (Kd.V_afterv (ok := (fun k_ => (P0_ k_ ∨ w.heap.size ≤ k_) ∧ some k_ ≠ (.slice (some ad211) x5_1.length co4 : Value).ownBlock)) (by (with_reducible repeat (first | apply Kd.V_alloc | apply Kd.V_drewN | apply Kd.V_drew)); exact HO_0.out) hg hat); have n1_ := Aside0.mk (Kd.N_afterv (ok := (fun k_ => (P0_ k_ ∨ w.heap.size ≤ k_))) (by (with_reducible repeat (first | apply Kd.N_alloc | apply Kd.N_drewN | apply Kd.N_drew)); exact HO_5.out) hg hat); have n2_ := Aside0.mk (Kd.V_afterv (ok := (fun k_ => (P0_ k_ ∨ w.heap.size ≤ k_) ∧ some k_ ≠ (.slice (some ad211) x5_1.length co4 : Value).ownBlock)) (by (with_reducible repeat (first | apply Kd.V_alloc | apply Kd.V_drewN | apply Kd.V_drew)); exact HL210_0.out) hg hat); have n3_ := Aside0.mk (Kd.V_afterv (ok := (fun k_ => (P0_ k_ ∨ w.heap.size ≤ k_) ∧ some k_ ≠ (.slice (some ad211) x5_1.length co4 : Value).ownBlock)) (by (with_reducible repeat (first | apply Kd.V_alloc | apply Kd.V_drewN | apply Kd.V_drew)); exact HL211_0.out) hg hat); have n4_ := Aside0.mk (Kd.V_afterv (ok := (fun k_ => (P0_ k_ ∨ w.heap.size ≤ k_))) (by (with_reducible repeat (first | apply Kd.V_alloc | apply Kd.V_drewN | apply Kd.V_drew)); exact HO217.out) hg hat); have n5_ := Aside0.mk (Kd.V_afterv (ok := (fun k_ => (P0_ k_ ∨ w.heap.size ≤ k_) ∧ some k_ ≠ (.slice (some ad211) x5_1.length co4 : Value).ownBlock)) (by (with_reducible repeat (first | apply Kd.V_alloc | apply Kd.V_drewN | apply Kd.V_drew)); exact HL221_0.out) hg hat); have n6_ := Aside0.mk (hb); have n7_ := Aside0.mk (ho); clear HO_0; clear HO_5; clear HL210_0; clear HL211_0; clear HO217; clear HL221_0; clear HB; clear HO220; have HO_0 := n0_; have HO_5 := n1_; have HL210_0 := n2_; have HL211_0 := n3_; have HO217 := n4_; have HL221_0 := n5_; have HB := n6_; have HO224 := n7_; clear n0_ n1_ n2_ n3_ n4_ n5_ n6_ n7_; clear ho hb hg hat; have q27 : (x7_2 : Int) ≤ ((x5_1.length : Int) : Int) := of_decide_eq_true (by first | (with_reducible assumption) | assumption); obtain ⟨i027, hi027, _, hsz27, _⟩ := info_parts info31; have hroom27 : x5_1.length ≤ co4 := (Kd.N_reads' HO_5.out).2.1; have hC27 : Kd.F (Kd.slice 42 k42) _ _ (some ad211) x5_1.length x5_1 := (Kd.V_at (base := w.heap.size) (Kd.N_V HO_5.out)).2.2; have q027 : (0 : Int) ≤ (x7_2 : Int) := of_decide_eq_true (by first | (with_reducible assumption) | assumption); have hcut27 := cut_from (P := Try.prog) 22 31 .i64 Try.underlying22 hi027 1 hsz27 (some ad211) x5_1.length co4 x7_2 q027 q27; have hr27 := Kd.F_cut (m := (x7_2 : Int).toNat) (c := co4) hC27 (by omega) hroom27; obtain ⟨A27, hA27⟩ : ∃ A1, A1 = (if co4 = (x7_2 : Int).toNat then (some ad211) else ((some ad211) : Option Addr).map (·.add ((x7_2 : Int).toNat * 1))) := ⟨_, rfl⟩; obtain ⟨c27, hc27⟩ : ∃ c1, c1 = co4 - (x7_2 : Int).toNat := ⟨_, rfl⟩; have hy27 : y225.length = x5_1.length - (x7_2 : Int).toNat := (by rw [Ny225.out, List.length_drop] <;> omega); rw [show (x5_1).drop (x7_2 : Int).toNat = y225 from Ny225.out.symm] at hr27; replace hr27 : Kd.F (Kd.slice 42 k42) _ _ A27 y225.length y225 := (by rw [hA27]; exact hr27); rw [← hy27, ← hA27, ← hc27] at hcut27; have HO229 := Aside0.mk (show Kd.V (Kd.slice 42 k42) 31 _ w.heap.size _ (.slice A27 y225.length c27) y225 from Kd.V_mk (by rw [hy27, hc27]; exact Nat.sub_le_sub_right hroom27 _) hr27); have HC229 := Aside0.mk (show y225.length ≤ c27 from by rw [hy27, hc27]; exact Nat.sub_le_sub_right hroom27 _); clear hr27 hC27 hroom27 hi027 hsz27 hc27; have KY27 := Aside0.mk hy27; have KA27 := Aside0.mk hA27; clear hy27 hA27; replace q27 := eq_true q27) | ((with_reducible refine gate_builtin (b := .append) (xs := #[.tmp 47, .tmp 50]) rfl ?_); at_builtin; refine Kd.N_append_rows (Kd.slice 42 k42) (w0 := w) w.heap.size rfl (.tmp 47) (.tmp 50) 22 31 (.slice none 0 0) 24 rfl Try.underlying22 info31 rfl (by decide) (by omega) v223 y222 y225 _ _ _ (fun k_ => (P0_ k_ ∨ w.heap.size ≤ k_)) (fun k_ => ((fun k_ => (P0_ k_ ∨ w.heap.size ≤ k_))) k_ ∧ some k_ ≠ (v223 : Value).ownBlock) rfl rfl ?aO ?aR (fun _ hk => hk) ?aF ?aB ?aS ?aL ?_; (case aR => exact (by skip; exact Kd.V_F (Kd.V_mono (ok' := (fun k_ => ((fun k_ => (P0_ k_ ∨ w.heap.size ≤ k_))) k_ ∧ some k_ ≠ (v223 : Value).ownBlock)) (HO229.out) (fun k_ hk => ⟨hk.1, hk.2⟩)))); (case aB => exact (by repeat (first | (with_reducible first | exact HB.out | apply below_alloc | apply pw_below_drewN | apply below_drew1) | exact HB.out))); (case aF => exact (fun k_ hk => (.inr (Nat.le_trans (below_size (by repeat (first | (with_reducible first | exact HB.out | apply below_alloc | apply pw_below_drewN | apply below_drew1) | exact HB.out))) hk)))); (case aO => exact (by (with_reducible repeat (first | apply Kd.N_alloc | apply Kd.N_drewN | apply Kd.N_drew)); exact HO224.out)); (case aS => exact (below_size (by repeat (first | (with_reducible first | exact HB.out | apply below_alloc | apply pw_below_drewN | apply below_drew1) | exact HB.out)))); (case aL => have := LMc21.out; omega); intro v231 w28 ho hb hg hat; rw [← Ny230.out] at ho; have n0_ := Aside0.mk (Kd.V_afterv (ok := (fun k_ => (P0_ k_ ∨ w.heap.size ≤ k_) ∧ some k_ ≠ (.slice (some ad211) x5_1.length co4 : Value).ownBlock)) (by (with_reducible repeat (first | apply Kd.V_alloc | apply Kd.V_drewN | apply Kd.V_drew)); exact HO_0.out) hg hat); have n1_ := Aside0.mk (Kd.N_afterv (ok := (fun k_ => (P0_ k_ ∨ w.heap.size ≤ k_))) (by (with_reducible repeat (first | apply Kd.N_alloc | apply Kd.N_drewN | apply Kd.N_drew)); exact HO_5.out) hg hat); have n2_ := Aside0.mk (Kd.V_afterv (ok := (fun k_ => (P0_ k_ ∨ w.heap.size ≤ k_) ∧ some k_ ≠ (.slice (some ad211) x5_1.length co4 : Value).ownBlock)) (by (with_reducible repeat (first | apply Kd.V_alloc | apply Kd.V_drewN | apply Kd.V_drew)); exact HL210_0.out) hg hat); have n3_ := Aside0.mk (Kd.V_afterv (ok := (fun k_ => (P0_ k_ ∨ w.heap.size ≤ k_) ∧ some k_ ≠ (.slice (some ad211) x5_1.length co4 : Value).ownBlock)) (by (with_reducible repeat (first | apply Kd.V_alloc | apply Kd.V_drewN | apply Kd.V_drew)); exact HL211_0.out) hg hat); have n4_ := Aside0.mk (Kd.V_afterv (ok := (fun k_ => (P0_ k_ ∨ w.heap.size ≤ k_))) (by (with_reducible repeat (first | apply Kd.V_alloc | apply Kd.V_drewN | apply Kd.V_drew)); exact HO217.out) hg hat); have n5_ := Aside0.mk (Kd.V_afterv (ok := (fun k_ => (P0_ k_ ∨ w.heap.size ≤ k_) ∧ some k_ ≠ (.slice (some ad211) x5_1.length co4 : Value).ownBlock)) (by (with_reducible repeat (first | apply Kd.V_alloc | apply Kd.V_drewN | apply Kd.V_drew)); exact HL221_0.out) hg hat); have n6_ := Aside0.mk (Kd.V_afterv (ok := (fun k_ => (P0_ k_ ∨ w.heap.size ≤ k_))) (by (with_reducible repeat (first | apply Kd.V_alloc | apply Kd.V_drewN | apply Kd.V_drew)); exact HO229.out) hg hat); have n7_ := Aside0.mk (hb); have n8_ := Aside0.mk (ho); clear HO_0; clear HO_5; clear HL210_0; clear HL211_0; clear HO217; clear HL221_0; clear HO229; clear HB; clear HO224; have HO_0 := n0_; have HO_5 := n1_; have HL210_0 := n2_; have HL211_0 := n3_; have HO217 := n4_; have HL221_0 := n5_; have HO229 := n6_; have HB := n7_; have HO232 := n8_; clear n0_ n1_ n2_ n3_ n4_ n5_ n6_ n7_ n8_; clear ho hb hg hat))
                                  go_roundg k2
                                  case measure => have := HK1.out; have := HK2.out; omega
                                  case rel => exact ⟨(y230), (wrap64 (x6_1 + 1)), (by first | rfl | (simp; done) | (simp [*]; done)), H', ⟨by have := HK1.out; have := HK2.out; omega⟩, ⟨by (with_reducible repeat (first | apply Kd.V_alloc | apply Kd.V_drewN | apply Kd.V_drew)); exact Kd.V_mono HO_0.out (fun _ hk => ⟨hk.1.1, hk.2⟩)⟩, ⟨by (with_reducible repeat (first | apply Kd.N_alloc | apply Kd.N_drewN | apply Kd.N_drew)); exact HO232.out⟩, ⟨by repeat (first | (with_reducible first | exact HB.out | apply below_alloc | apply pw_below_drewN | apply below_drew1) | exact HB.out)⟩⟩
                                · rw [if_neg c21] at H
                                  exact absurd H (by simp)
                              · rw [if_neg c18] at H
                                exact absurd H (by simp)
                            · rw [if_neg c17] at H
                              exact absurd H (by simp)
                          · rw [if_neg c16] at H
                            exact absurd H (by simp)
                        · rw [if_neg c15] at H
                          exact absurd H (by simp)
                    · rw [if_neg c10] at H
                      exact absurd H (by simp)
                  · rw [if_neg c9] at H
                    exact absurd H (by simp)
                · rw [if_neg c7] at H
                  exact absurd H (by simp)
              · rw [if_neg c6] at H
                exact absurd H (by simp)
            · rw [if_neg c5] at H
              have c5b0 : decide (0 < x7_2) = false := decide_eq_false c5
              clear c5
              by_cases c29 : 0 ≤ x7_2
              · rw [if_pos c29] at H
                have c29b0 := eq_true c29
                have c29b1 : decide (0 ≤ x7_2) = true := decide_eq_true c29
                clear c29
                by_cases c30 : x7_2 ≤ (x5_1.length : Int)
                · rw [if_pos c30] at H
                  have c30b0 := eq_true c30
                  have c30b1 : decide (x7_2 ≤ (x5_1.length : Int)) = true := decide_eq_true c30
                  clear c30
                  obtain ⟨y233, hy233⟩ : ∃ y_ : List (List (S42)), y_ = (x5_1.take (x7_2 : Int).toNat) := ⟨_, rfl⟩
                  replace H : (if ([] : List (List (S42))).length + y233.length < 5864062014805 then ((some (([] : List (List (S42))) ++ y233 : List (List (S42)))).bind fun y238 => (if 0 ≤ x6_1 then (if x6_1 < (l0.length : Int) then (if y238.length < 5864062014805 then ((some (y238 ++ [rd_L4 l0 x6_1] : List (List (S42)))).bind fun y242 => ((some (x5_1.drop (x7_2 : Int).toNat : List (List (S42)))).bind fun y245 => (if y242.length + y245.length < 5864062014805 then (hayloftref15_Sort.l0 k2 l0 l1 (y242 ++ y245) (wrap64 (x6_1 + 1))) else (none)))) else (none)) else (none)) else (none))) else (none)) = some r := by first | (rw [hy233]; with_reducible exact H) | (have H2_ := (Option.bind_some _ _).symm.trans H; rw [hy233]; with_reducible exact H2_) | (have H2_ := (Option.bind_some _ _).symm.trans H; with_reducible exact H2_) | with_reducible exact H | (rw [hy233]; exact H) | exact H
                  have Ny233 := Aside0.mk hy233
                  clear hy233
                  by_cases c31 : ([] : List (List (S42))).length + y233.length < 5864062014805
                  · rw [if_pos c31] at H
                    have LMc31 := Aside0.mk c31
                    clear c31
                    obtain ⟨y238, hy238⟩ : ∃ y_ : List (List (S42)), y_ = (([] : List (List (S42))) ++ y233) := ⟨_, rfl⟩
                    replace H : (if 0 ≤ x6_1 then (if x6_1 < (l0.length : Int) then (if y238.length < 5864062014805 then ((some (y238 ++ [rd_L4 l0 x6_1] : List (List (S42)))).bind fun y242 => ((some (x5_1.drop (x7_2 : Int).toNat : List (List (S42)))).bind fun y245 => (if y242.length + y245.length < 5864062014805 then (hayloftref15_Sort.l0 k2 l0 l1 (y242 ++ y245) (wrap64 (x6_1 + 1))) else (none)))) else (none)) else (none)) else (none)) = some r := by first | (rw [hy238]; with_reducible exact H) | (have H2_ := (Option.bind_some _ _).symm.trans H; rw [hy238]; with_reducible exact H2_) | (have H2_ := (Option.bind_some _ _).symm.trans H; with_reducible exact H2_) | with_reducible exact H | (rw [hy238]; exact H) | exact H
                    have Ny238 := Aside0.mk hy238
                    clear hy238
                    by_cases c32 : 0 ≤ x6_1
                    · rw [if_pos c32] at H
                      have c32b0 : decide (0 ≤ x6_1) = true := decide_eq_true c32
                      clear c32
                      by_cases c33 : x6_1 < (l0.length : Int)
                      · rw [if_pos c33] at H
                        have c33b0 : decide (x6_1 < (l0.length : Int)) = true := decide_eq_true c33
                        clear c33
                        by_cases c34 : y238.length < 5864062014805
                        · rw [if_pos c34] at H
                          have LMc34 := Aside0.mk c34
                          clear c34
                          obtain ⟨y242, hy242⟩ : ∃ y_ : List (List (S42)), y_ = (y238 ++ [rd_L4 l0 x6_1]) := ⟨_, rfl⟩
                          replace H : ((some (x5_1.drop (x7_2 : Int).toNat : List (List (S42)))).bind fun y245 => (if y242.length + y245.length < 5864062014805 then (hayloftref15_Sort.l0 k2 l0 l1 (y242 ++ y245) (wrap64 (x6_1 + 1))) else (none))) = some r := by first | (rw [hy242]; with_reducible exact H) | (have H2_ := (Option.bind_some _ _).symm.trans H; rw [hy242]; with_reducible exact H2_) | (have H2_ := (Option.bind_some _ _).symm.trans H; with_reducible exact H2_) | with_reducible exact H | (rw [hy242]; exact H) | exact H
                          have Ny242 := Aside0.mk hy242
                          clear hy242
                          have c35b0 := eq_true (of_decide_eq_true (by first | (with_reducible assumption) | assumption) : 0 ≤ x7_2)
                          have c36b0 := eq_true (of_decide_eq_true (by first | (with_reducible assumption) | assumption) : x7_2 ≤ (x5_1.length : Int))
                          obtain ⟨y245, hy245⟩ : ∃ y_ : List (List (S42)), y_ = (x5_1.drop (x7_2 : Int).toNat) := ⟨_, rfl⟩
                          replace H : (if y242.length + y245.length < 5864062014805 then (hayloftref15_Sort.l0 k2 l0 l1 (y242 ++ y245) (wrap64 (x6_1 + 1))) else (none)) = some r := by first | (rw [hy245]; with_reducible exact H) | (have H2_ := (Option.bind_some _ _).symm.trans H; rw [hy245]; with_reducible exact H2_) | (have H2_ := (Option.bind_some _ _).symm.trans H; with_reducible exact H2_) | with_reducible exact H | (rw [hy245]; exact H) | exact H
                          have Ny245 := Aside0.mk hy245
                          clear hy245
                          by_cases c37 : y242.length + y245.length < 5864062014805
                          · rw [if_pos c37] at H
                            have LMc37 := Aside0.mk c37
                            clear c37
                            obtain ⟨y250, hy250⟩ : ∃ y_ : List (List (S42)), y_ = (y242 ++ y245) := ⟨_, rfl⟩
                            replace H : (hayloftref15_Sort.l0 k2 l0 l1 y250 (wrap64 (x6_1 + 1))) = some r := by first | (rw [hy250]; with_reducible exact H) | (have H2_ := (Option.bind_some _ _).symm.trans H; rw [hy250]; with_reducible exact H2_) | (have H2_ := (Option.bind_some _ _).symm.trans H; with_reducible exact H2_) | with_reducible exact H | (rw [hy250]; exact H) | exact H
                            have Ny250 := Aside0.mk hy250
                            clear hy250
                            have H' := Aside0.mk H
                            clear H
                            have q38 : (x7_2 : Int) ≤ ((x5_1.length : Int) : Int) := of_decide_eq_true (by first | (with_reducible assumption) | assumption)
                            obtain ⟨i038, hi038, _, hsz38, _⟩ := info_parts info31
                            have hroom38 : x5_1.length ≤ co4 := (Kd.N_reads' HO_5.out).2.1
                            have hC38 : Kd.F (Kd.slice 42 k42) _ _ Ao4 x5_1.length x5_1 := (Kd.V_at (base := w.heap.size) (Kd.N_V HO_5.out)).2.2
                            have hcut38 := cut_to (P := Try.prog) 22 31 .i64 Try.underlying22 hi038 Ao4 x5_1.length co4 x7_2 (of_decide_eq_true (by first | (with_reducible assumption) | assumption)) q38 hroom38
                            have hr38 := Kd.F_take (m := (x7_2 : Int).toNat) hC38 (by omega)
                            have hy38 : y233.length = (x7_2 : Int).toNat := (by rw [Ny233.out, List.length_take]; omega)
                            rw [← Ny233.out] at hr38
                            rw [← hy38] at hcut38
                            have HO237 := Aside0.mk (show Kd.V (Kd.slice 42 k42) 31 _ w.heap.size _ (.slice Ao4 y233.length co4) y233 from Kd.V_mk (by omega) hr38)
                            have HC237 := Aside0.mk (show y233.length ≤ co4 from by omega)
                            clear hr38 hC38 hroom38 hi038 hsz38
                            have KY38 := Aside0.mk hy38
                            clear hy38
                            replace q38 := eq_true q38
                            go_wp2_with (first | ((with_reducible refine gate_builtin (b := .append) (xs := #[.tmp 35, .tmp 38]) rfl ?_); at_builtin; refine Kd.N_append_rows (Kd.slice 42 k42) (w0 := w) w.heap.size rfl (.tmp 35) (.tmp 38) 22 31 (.slice none 0 0) 24 rfl Try.underlying22 info31 rfl (by decide) (by omega) (.slice none 0 0) ([] : List (List (S42))) y233 _ _ _ (fun k_ => (P0_ k_ ∨ w.heap.size ≤ k_)) (fun k_ => ((fun k_ => (P0_ k_ ∨ w.heap.size ≤ k_))) k_ ∧ some k_ ≠ (.slice none 0 0 : Value).ownBlock) rfl rfl ?aO ?aR (fun _ hk => hk) ?aF ?aB ?aS ?aL ?_; (case aR => exact (by skip; exact Kd.V_F (Kd.V_mono (ok' := (fun k_ => ((fun k_ => (P0_ k_ ∨ w.heap.size ≤ k_))) k_ ∧ some k_ ≠ (.slice none 0 0 : Value).ownBlock)) (HO237.out) (fun k_ hk => ⟨hk, (by simp [Value.ownBlock])⟩)))); (case aB => exact (by repeat (first | (with_reducible first | exact HB.out | apply below_alloc | apply pw_below_drewN | apply below_drew1) | exact HB.out))); (case aF => exact (fun k_ hk => (.inr (Nat.le_trans (below_size (by repeat (first | (with_reducible first | exact HB.out | apply below_alloc | apply pw_below_drewN | apply below_drew1) | exact HB.out))) hk)))); (case aO => exact ((Kd.N_nil _ _ _ _ (fun k_ => (P0_ k_ ∨ w.heap.size ≤ k_))))); (case aS => exact (below_size (by repeat (first | (with_reducible first | exact HB.out | apply below_alloc | apply pw_below_drewN | apply below_drew1) | exact HB.out)))); (case aL => have := LMc31.out; omega); intro v239 w39 ho hb hg hat; rw [← Ny238.out] at ho; have n0_ := Aside0.mk (Kd.V_afterv (Kd.V_apart_nil (by (with_reducible repeat (first | apply Kd.V_alloc | apply Kd.V_drewN | apply Kd.V_drew)); exact HO_0.out)) hg hat); have n1_ := Aside0.mk (Kd.N_afterv (Kd.N_apart_nil (by (with_reducible repeat (first | apply Kd.N_alloc | apply Kd.N_drewN | apply Kd.N_drew)); exact HO_5.out)) hg hat); have n2_ := Aside0.mk (Kd.V_afterv (Kd.V_apart_nil (by (with_reducible repeat (first | apply Kd.V_alloc | apply Kd.V_drewN | apply Kd.V_drew)); exact HO237.out)) hg hat); have n3_ := Aside0.mk (hb); have n4_ := Aside0.mk (ho); clear HO_0; clear HO_5; clear HO237; clear HB; have HO_0 := n0_; have HO_5 := n1_; have HO237 := n2_; have HB := n3_; have HO240 := n4_; clear n0_ n1_ n2_ n3_ n4_; clear ho hb hg hat; have p241 : 0 ≤ (x6_1 : Int) := of_decide_eq_true (by first | (with_reducible assumption) | assumption); have q241 : x6_1 < (l0.length : Int) := of_decide_eq_true (by first | (with_reducible assumption) | assumption); obtain ⟨ad241, A241_0, c241_0, e241, hx241_0, hl241_0, hi241_0⟩ := at_L4 (Kd.V_reads' HO_0.out).2.2 x6_1 p241 q241; cases e241; obtain ⟨ce241, hce241, hMe241, hcc241⟩ := Kd.V_get HO_0.out [] x6_1 p241 (by first | exact q241 | exact of_decide_eq_true (by first | (with_reducible assumption) | assumption) | (have e_ := (Kd.V_reads' HO_0.out).1; omega)); obtain ⟨ua241_0, uc241_0, rfl, ul241_0, ge241_0⟩ := Kd.FK_slice_open hMe241; have hv241_0 := hcc241 0 _ rfl; rw [Nat.add_zero, show ((Kd.slice 42 k42)).sz = 1 from rfl, Nat.mul_one] at hv241_0; replace hv241_0 := Option.some.inj (hv241_0.symm.trans hx241_0); injection hv241_0 with hva_ hvn_ hvc_; rw [hva_] at ge241_0; rw [hvc_] at ul241_0; have HL241_0 := Aside0.mk (show Kd.V k42 42 _ w.heap.size _ _ (rd_L4 l0 x6_1) from Kd.V_mk ul241_0 ge241_0); clear hva_ hvn_ hvc_ ge241_0 ul241_0; clear hcc241 hce241; have HR241_0 := Aside0.mk hi241_0; have HC241_0 := Aside0.mk hl241_0; clear hi241_0 hl241_0; replace p241 := eq_true p241; replace q241 := eq_true q241) | ((with_reducible refine gate_builtin (b := .append) (xs := #[.tmp 40, .tmp 45]) rfl ?_); at_builtin; refine Kd.N_append (Kd.slice 42 k42) (w0 := w) w.heap.size rfl (.tmp 40) (.tmp 45) 22 31 (.slice none 0 0) 24 rfl Try.underlying22 info31 rfl (by decide) (by omega) v239 y238 (rd_L4 l0 x6_1) [.slice A241_0 (rd_L4 l0 x6_1).length c241_0] (fun k_ => (P0_ k_ ∨ w.heap.size ≤ k_)) (fun k_ => ((fun k_ => (P0_ k_ ∨ w.heap.size ≤ k_))) k_ ∧ some k_ ≠ (v239 : Value).ownBlock) rfl rfl ?aP (fun _ hk => hk) ?aF ?aO ?aB ?aS ?aL ?_; (case aP => exact (Kd.FK_slice_mk (Kd.V_reads' (Kd.V_mono (ok' := (fun k_ => ((fun k_ => (P0_ k_ ∨ w.heap.size ≤ k_))) k_ ∧ some k_ ≠ (v239 : Value).ownBlock)) (HL241_0.out) (fun k_ hk => ⟨hk.1.1, hk.2⟩))).2.1 (Kd.V_F (Kd.V_mono (ok' := (fun k_ => ((fun k_ => (P0_ k_ ∨ w.heap.size ≤ k_))) k_ ∧ some k_ ≠ (v239 : Value).ownBlock)) (HL241_0.out) (fun k_ hk => ⟨hk.1.1, hk.2⟩))))); (case aB => exact (by repeat (first | (with_reducible first | exact HB.out | apply below_alloc | apply pw_below_drewN | apply below_drew1) | exact HB.out))); (case aF => exact (fun k_ hk => (.inr (Nat.le_trans (below_size (by repeat (first | (with_reducible first | exact HB.out | apply below_alloc | apply pw_below_drewN | apply below_drew1) | exact HB.out))) hk)))); (case aO => exact (by (with_reducible repeat (first | apply Kd.N_alloc | apply Kd.N_drewN | apply Kd.N_drew)); exact HO240.out)); (case aS => exact (below_size (by repeat (first | (with_reducible first | exact HB.out | apply below_alloc | apply pw_below_drewN | apply below_drew1) | exact HB.out)))); (case aL => have := LMc34.out; omega); intro v243 w40 ho hb hg hat; rw [← Ny242.out] at ho; have n0_ := Aside0.mk (Kd.V_afterv (ok := (fun k_ => (P0_ k_ ∨ w.heap.size ≤ k_) ∧ some k_ ≠ (.slice Ao4 x5_1.length co4 : Value).ownBlock)) (by (with_reducible repeat (first | apply Kd.V_alloc | apply Kd.V_drewN | apply Kd.V_drew)); exact HO_0.out) hg hat); have n1_ := Aside0.mk (Kd.N_afterv (ok := (fun k_ => (P0_ k_ ∨ w.heap.size ≤ k_))) (by (with_reducible repeat (first | apply Kd.N_alloc | apply Kd.N_drewN | apply Kd.N_drew)); exact HO_5.out) hg hat); have n2_ := Aside0.mk (Kd.V_afterv (ok := (fun k_ => (P0_ k_ ∨ w.heap.size ≤ k_))) (by (with_reducible repeat (first | apply Kd.V_alloc | apply Kd.V_drewN | apply Kd.V_drew)); exact HO237.out) hg hat); have n3_ := Aside0.mk (Kd.V_afterv (ok := (fun k_ => (P0_ k_ ∨ w.heap.size ≤ k_) ∧ some k_ ≠ (.slice Ao4 x5_1.length co4 : Value).ownBlock)) (by (with_reducible repeat (first | apply Kd.V_alloc | apply Kd.V_drewN | apply Kd.V_drew)); exact HL241_0.out) hg hat); have n4_ := Aside0.mk (hb); have n5_ := Aside0.mk (ho); clear HO_0; clear HO_5; clear HO237; clear HL241_0; clear HB; clear HO240; have HO_0 := n0_; have HO_5 := n1_; have HO237 := n2_; have HL241_0 := n3_; have HB := n4_; have HO244 := n5_; clear n0_ n1_ n2_ n3_ n4_ n5_; clear ho hb hg hat; have q41 : (x7_2 : Int) ≤ ((x5_1.length : Int) : Int) := of_decide_eq_true (by first | (with_reducible assumption) | assumption); obtain ⟨i041, hi041, _, hsz41, _⟩ := info_parts info31; have hroom41 : x5_1.length ≤ co4 := (Kd.N_reads' HO_5.out).2.1; have hC41 : Kd.F (Kd.slice 42 k42) _ _ Ao4 x5_1.length x5_1 := (Kd.V_at (base := w.heap.size) (Kd.N_V HO_5.out)).2.2; have q041 : (0 : Int) ≤ (x7_2 : Int) := of_decide_eq_true (by first | (with_reducible assumption) | assumption); have hcut41 := cut_from (P := Try.prog) 22 31 .i64 Try.underlying22 hi041 1 hsz41 Ao4 x5_1.length co4 x7_2 q041 q41; have hr41 := Kd.F_cut (m := (x7_2 : Int).toNat) (c := co4) hC41 (by omega) hroom41; obtain ⟨A41, hA41⟩ : ∃ A1, A1 = (if co4 = (x7_2 : Int).toNat then Ao4 else (Ao4 : Option Addr).map (·.add ((x7_2 : Int).toNat * 1))) := ⟨_, rfl⟩; obtain ⟨c41, hc41⟩ : ∃ c1, c1 = co4 - (x7_2 : Int).toNat := ⟨_, rfl⟩; have hy41 : y245.length = x5_1.length - (x7_2 : Int).toNat := (by rw [Ny245.out, List.length_drop] <;> omega); rw [show (x5_1).drop (x7_2 : Int).toNat = y245 from Ny245.out.symm] at hr41; replace hr41 : Kd.F (Kd.slice 42 k42) _ _ A41 y245.length y245 := (by rw [hA41]; exact hr41); rw [← hy41, ← hA41, ← hc41] at hcut41; have HO249 := Aside0.mk (show Kd.V (Kd.slice 42 k42) 31 _ w.heap.size _ (.slice A41 y245.length c41) y245 from Kd.V_mk (by rw [hy41, hc41]; exact Nat.sub_le_sub_right hroom41 _) hr41); have HC249 := Aside0.mk (show y245.length ≤ c41 from by rw [hy41, hc41]; exact Nat.sub_le_sub_right hroom41 _); clear hr41 hC41 hroom41 hi041 hsz41 hc41; have KY41 := Aside0.mk hy41; have KA41 := Aside0.mk hA41; clear hy41 hA41; replace q41 := eq_true q41) | ((with_reducible refine gate_builtin (b := .append) (xs := #[.tmp 47, .tmp 50]) rfl ?_); at_builtin; refine Kd.N_append_rows (Kd.slice 42 k42) (w0 := w) w.heap.size rfl (.tmp 47) (.tmp 50) 22 31 (.slice none 0 0) 24 rfl Try.underlying22 info31 rfl (by decide) (by omega) v243 y242 y245 _ _ _ (fun k_ => (P0_ k_ ∨ w.heap.size ≤ k_)) (fun k_ => ((fun k_ => (P0_ k_ ∨ w.heap.size ≤ k_))) k_ ∧ some k_ ≠ (v243 : Value).ownBlock) rfl rfl ?aO ?aR (fun _ hk => hk) ?aF ?aB ?aS ?aL ?_; (case aR => exact (by skip; exact Kd.V_F (Kd.V_mono (ok' := (fun k_ => ((fun k_ => (P0_ k_ ∨ w.heap.size ≤ k_))) k_ ∧ some k_ ≠ (v243 : Value).ownBlock)) (HO249.out) (fun k_ hk => ⟨hk.1, hk.2⟩)))); (case aB => exact (by repeat (first | (with_reducible first | exact HB.out | apply below_alloc | apply pw_below_drewN | apply below_drew1) | exact HB.out))); (case aF => exact (fun k_ hk => (.inr (Nat.le_trans (below_size (by repeat (first | (with_reducible first | exact HB.out | apply below_alloc | apply pw_below_drewN | apply below_drew1) | exact HB.out))) hk)))); (case aO => exact (by (with_reducible repeat (first | apply Kd.N_alloc | apply Kd.N_drewN | apply Kd.N_drew)); exact HO244.out)); (case aS => exact (below_size (by repeat (first | (with_reducible first | exact HB.out | apply below_alloc | apply pw_below_drewN | apply below_drew1) | exact HB.out)))); (case aL => have := LMc37.out; omega); intro v251 w42 ho hb hg hat; rw [← Ny250.out] at ho; have n0_ := Aside0.mk (Kd.V_afterv (ok := (fun k_ => (P0_ k_ ∨ w.heap.size ≤ k_) ∧ some k_ ≠ (.slice Ao4 x5_1.length co4 : Value).ownBlock)) (by (with_reducible repeat (first | apply Kd.V_alloc | apply Kd.V_drewN | apply Kd.V_drew)); exact HO_0.out) hg hat); have n1_ := Aside0.mk (Kd.N_afterv (ok := (fun k_ => (P0_ k_ ∨ w.heap.size ≤ k_))) (by (with_reducible repeat (first | apply Kd.N_alloc | apply Kd.N_drewN | apply Kd.N_drew)); exact HO_5.out) hg hat); have n2_ := Aside0.mk (Kd.V_afterv (ok := (fun k_ => (P0_ k_ ∨ w.heap.size ≤ k_))) (by (with_reducible repeat (first | apply Kd.V_alloc | apply Kd.V_drewN | apply Kd.V_drew)); exact HO237.out) hg hat); have n3_ := Aside0.mk (Kd.V_afterv (ok := (fun k_ => (P0_ k_ ∨ w.heap.size ≤ k_) ∧ some k_ ≠ (.slice Ao4 x5_1.length co4 : Value).ownBlock)) (by (with_reducible repeat (first | apply Kd.V_alloc | apply Kd.V_drewN | apply Kd.V_drew)); exact HL241_0.out) hg hat); have n4_ := Aside0.mk (Kd.V_afterv (ok := (fun k_ => (P0_ k_ ∨ w.heap.size ≤ k_))) (by (with_reducible repeat (first | apply Kd.V_alloc | apply Kd.V_drewN | apply Kd.V_drew)); exact HO249.out) hg hat); have n5_ := Aside0.mk (hb); have n6_ := Aside0.mk (ho); clear HO_0; clear HO_5; clear HO237; clear HL241_0; clear HO249; clear HB; clear HO244; have HO_0 := n0_; have HO_5 := n1_; have HO237 := n2_; have HL241_0 := n3_; have HO249 := n4_; have HB := n5_; have HO252 := n6_; clear n0_ n1_ n2_ n3_ n4_ n5_ n6_; clear ho hb hg hat))
                            go_roundg k2
                            case measure => have := HK1.out; have := HK2.out; omega
                            case rel => exact ⟨(y250), (wrap64 (x6_1 + 1)), (by first | rfl | (simp; done) | (simp [*]; done)), H', ⟨by have := HK1.out; have := HK2.out; omega⟩, ⟨by (with_reducible repeat (first | apply Kd.V_alloc | apply Kd.V_drewN | apply Kd.V_drew)); exact Kd.V_mono HO_0.out (fun _ hk => ⟨hk.1.1, hk.2⟩)⟩, ⟨by (with_reducible repeat (first | apply Kd.N_alloc | apply Kd.N_drewN | apply Kd.N_drew)); exact HO252.out⟩, ⟨by repeat (first | (with_reducible first | exact HB.out | apply below_alloc | apply pw_below_drewN | apply below_drew1) | exact HB.out)⟩⟩
                          · rw [if_neg c37] at H
                            exact absurd H (by simp)
                        · rw [if_neg c34] at H
                          exact absurd H (by simp)
                      · rw [if_neg c33] at H
                        exact absurd H (by simp)
                    · rw [if_neg c32] at H
                      exact absurd H (by simp)
                  · rw [if_neg c31] at H
                    exact absurd H (by simp)
                · rw [if_neg c30] at H
                  exact absurd H (by simp)
              · rw [if_neg c29] at H
                exact absurd H (by simp)
      · rw [if_neg c3] at H
        have c3b0 : decide (x6_1 < (l0.length : Int)) = false := decide_eq_false c3
        clear c3
        obtain rfl := Option.some.inj H
        go_wp2
        go_ret
        exact ⟨_, by first | rfl | (simp [errW_none, errW_some] <;> rfl) | (simp [*, errW_none, errW_some] <;> rfl), by (with_reducible repeat (first | apply Kd.N_alloc | apply Kd.N_drewN | apply Kd.N_drew)); exact HO_5.out, by repeat (first | (with_reducible first | exact HB.out | apply below_alloc | apply pw_below_drewN | apply below_drew1) | exact HB.out)⟩

end Go.Proofs.Ytghblnldokpceaa.QV
/- Sorting rows, plain: the order that is asked for; the reference's Sort. -/
namespace Go.Proofs.Ytghblnldokpceaa.QV
open Go.RowKit Go.Proofs.YtghblnldokpceaaW.PrintWords Go.Proofs.Ytghblnldokpceaa.Op Go.Proofs.Ytghblnldokpceaa.Stab
set_option linter.unusedVariables false
set_option linter.unusedSimpArgs false
/-- A total order of which some may be equal. -/
structure Pre {α : Type} (f : α → α → Int) : Prop where
  swap : ∀ x y, f x y < 0 ↔ 0 < f y x
  trans : ∀ x y z, f x y ≤ 0 → f y z ≤ 0 → f x z ≤ 0
theorem Pre.le {α : Type} {f : α → α → Int} (h : Pre f) (x y : α) : f x y ≤ 0 ↔ 0 ≤ f y x := by
  have := h.swap x y; have := h.swap y x; omega
theorem Pre.lt_le {α : Type} {f : α → α → Int} (h : Pre f) {x y z : α} (a : f x y < 0) (b : f y z ≤ 0) : f x z < 0 := by
  have h1 := h.trans x y z; have h2 := h.trans y z x; have e1 := h.swap x y; have e2 := h.swap x z; have e3 := h.swap z x; have e4 := h.swap y x
  omega
theorem Pre.le_lt {α : Type} {f : α → α → Int} (h : Pre f) {x y z : α} (a : f x y ≤ 0) (b : f y z < 0) : f x z < 0 := by
  have h1 := h.trans x y z; have h2 := h.trans z x y; have e1 := h.swap y z; have e2 := h.swap x z; have e3 := h.swap z x; have e4 := h.swap z y
  omega
theorem Pre.neg {α : Type} {f : α → α → Int} (h : Pre f) : Pre (fun x y => -f x y) :=
  ⟨fun x y => by have := h.swap x y; have := h.swap y x; omega, fun x y z a b => by
    have h1 := (h.le y x).2 (by omega)
    have h2 := (h.le z y).2 (by omega)
    have h3 := h.trans z y x h2 h1
    have := (h.le z x).1 h3
    omega⟩
theorem Pre.lex {α : Type} {f g : α → α → Int} (hf : Pre f) (hg : Pre g) : Pre (fun x y => if f x y ≠ 0 then f x y else g x y) := by
  refine ⟨fun x y => ?_, fun x y z a b => ?_⟩
  · have h1 := hf.swap x y; have h2 := hf.swap y x; have h3 := hg.swap x y
    show (if f x y ≠ 0 then f x y else g x y) < 0 ↔ 0 < (if f y x ≠ 0 then f y x else g y x)
    split <;> split <;> omega
  · replace a : (if f x y ≠ 0 then f x y else g x y) ≤ 0 := a
    replace b : (if f y z ≠ 0 then f y z else g y z) ≤ 0 := b
    show (if f x z ≠ 0 then f x z else g x z) ≤ 0
    have t1 := hf.trans x y z; have t2 := hg.trans x y z
    by_cases hxy : f x y = 0
    · rw [if_neg (by omega)] at a
      by_cases hyz : f y z = 0
      · rw [if_neg (by omega)] at b
        by_cases hxz : f x z = 0
        · rw [if_neg (by omega)]; omega
        · rw [if_pos hxz]; omega
      · rw [if_pos hyz] at b
        have := hf.le_lt (by omega : f x y ≤ 0) (by omega : f y z < 0)
        rw [if_pos (by omega)]; omega
    · rw [if_pos hxy] at a
      have hb : f y z ≤ 0 := by
        by_cases hyz : f y z = 0
        · omega
        · rw [if_pos hyz] at b; exact b
      have := hf.lt_le (by omega : f x y < 0) hb
      rw [if_pos (by omega)]; omega
theorem Pre.on {α β : Type} {f : β → β → Int} (h : Pre f) (k : α → β) : Pre (fun x y => f (k x) (k y)) := ⟨fun x y => h.swap _ _, fun x y z => h.trans _ _ _⟩
theorem preV : Pre cmpV := ⟨fun x y => by have := cmpV_swap x y; omega, cmpV_trans⟩
theorem rowsV_swap : ∀ a b : List V, rowsV b a = -rowsV a b
  | [], [] => rfl
  | [], _ :: _ => rfl
  | _ :: _, [] => rfl
  | x :: xs, y :: ys => by
    rw [rowsV, rowsV, rowsV_swap xs ys, cmpV_swap x y]
    by_cases h : cmpV x y = 0
    · rw [if_pos h, if_pos (by omega)]
    · rw [if_neg h, if_neg (by omega)]
theorem rowsV_trans : ∀ a b c : List V, rowsV a b ≤ 0 → rowsV b c ≤ 0 → rowsV a c ≤ 0
  | [], _, [], _, _ => by simp [rowsV]
  | [], _, _ :: _, _, _ => by simp [rowsV]
  | _ :: _, [], _, h, _ => by simp [rowsV] at h
  | _ :: _, _ :: _, [], _, h => by simp [rowsV] at h
  | x :: xs, y :: ys, z :: zs, h1, h2 => by
    rw [rowsV] at h1 h2 ⊢
    have ih := rowsV_trans xs ys zs
    have t := cmpV_trans x y z
    by_cases a : cmpV x y = 0
    · rw [if_pos a] at h1
      by_cases b : cmpV y z = 0
      · rw [if_pos b] at h2
        by_cases c : cmpV x z = 0
        · rw [if_pos c]; exact ih h1 h2
        · rw [if_neg c]; omega
      · rw [if_neg b] at h2
        have := preV.le_lt (by omega : cmpV x y ≤ 0) (by omega : cmpV y z < 0)
        rw [if_neg (by omega)]; omega
    · rw [if_neg a] at h1
      have hb : cmpV y z ≤ 0 := by
        by_cases b : cmpV y z = 0
        · omega
        · rw [if_neg b] at h2; exact h2
      have := preV.lt_le (by omega : cmpV x y < 0) hb
      rw [if_neg (by omega)]; omega
theorem preRows : Pre rowsV := ⟨fun x y => by have := rowsV_swap x y; omega, rowsV_trans⟩
abbrev Ord : Type := S77
/-- The order of rows that is asked for. -/
def ordS : List Ord → Row → Row → Int
  | [], a, b => rowsV (a.map toV) (b.map toV)
  | o :: l, a, b => if (if o.f1 then -cmpV (toV (atS a o.f0)) (toV (atS b o.f0)) else cmpV (toV (atS a o.f0)) (toV (atS b o.f0))) ≠ 0 then (if o.f1 then -cmpV (toV (atS a o.f0)) (toV (atS b o.f0)) else cmpV (toV (atS a o.f0)) (toV (atS b o.f0))) else ordS l a b
theorem preOrd : ∀ l : List Ord, Pre (ordS l)
  | [] => preRows.on (fun a : Row => a.map toV)
  | o :: l => by
    have h : Pre (fun a b : Row => if o.f1 then -cmpV (toV (atS a o.f0)) (toV (atS b o.f0)) else cmpV (toV (atS a o.f0)) (toV (atS b o.f0))) := by
      cases o.f1
      · simpa using preV.on (fun a : Row => toV (atS a o.f0))
      · simpa using (preV.on (fun a : Row => toV (atS a o.f0))).neg
    exact h.lex (preOrd l)
/-- R is xs, sorted: equals as they stood. -/
def Sorts {α : Type} (z : α) (f : α → α → Int) (xs R : List α) : Prop := ∃ S : List Nat, S.Perm (List.range xs.length) ∧ S.Pairwise (Lt (fun i j => f (xs.getD i z) (xs.getD j z))) ∧ R = S.map (fun i => xs.getD i z)
theorem Pre.ok {α : Type} {f : α → α → Int} (h : Pre f) (z : α) (xs : List α) : CmpOk (fun i j => f (xs.getD i z) (xs.getD j z)) := ⟨fun x y => h.swap _ _, fun x y w => h.trans _ _ _⟩
theorem Sorts.unique {α : Type} {z : α} {f : α → α → Int} (h : Pre f) {xs R R' : List α} (a : Sorts z f xs R) (b : Sorts z f xs R') : R = R' := by
  obtain ⟨S, h1, h2, h3⟩ := a
  obtain ⟨S', h1', h2', h3'⟩ := b
  rw [h3, h3', Stab.unique (h.ok z xs) (h1.trans h1'.symm) h2 h2']
theorem Sorts.len {α : Type} {z : α} {f : α → α → Int} {xs R : List α} (a : Sorts z f xs R) : R.length = xs.length := by
  obtain ⟨S, h1, h2, h3⟩ := a
  rw [h3, List.length_map, h1.length_eq, List.length_range]
theorem map_range {α : Type} (z : α) (xs : List α) : (List.range xs.length).map (fun i => xs.getD i z) = xs := by
  refine List.ext_getElem (by simp) (fun i h1 h2 => ?_)
  simp [List.getD_eq_getElem?_getD, List.getElem?_eq_getElem h2]
theorem Sorts.perm {α : Type} {z : α} {f : α → α → Int} {xs R : List α} (a : Sorts z f xs R) : R.Perm xs := by
  obtain ⟨S, h1, h2, h3⟩ := a
  have := h1.map (fun i => xs.getD i z)
  rw [map_range] at this
  rw [h3]; exact this
theorem Sorts.sorted {α : Type} {z : α} {f : α → α → Int} {xs R : List α} (a : Sorts z f xs R) : R.Pairwise (fun x y => f x y ≤ 0) := by
  obtain ⟨S, h1, h2, h3⟩ := a
  rw [h3, List.pairwise_map]
  refine h2.imp (fun h => ?_)
  rcases h with h | ⟨h, _⟩
  · exact Int.le_of_lt h
  · exact Int.le_of_eq h
/-- Of a list sorted so, one more behind. -/
theorem Sorts.snoc {α : Type} {z : α} {f : α → α → Int} (h : Pre f) {xs : List α} {x : α} {u v : List α} (a : Sorts z f xs (u ++ v)) (hv : ∀ y ∈ v, f x y < 0) (hu : ∀ y ∈ u, ¬ f x y < 0) : Sorts z f (xs ++ [x]) (u ++ x :: v) := by
  obtain ⟨S, h1, h2, h3⟩ := a
  obtain ⟨Su, Sv, rfl, hSu, hSv⟩ : ∃ Su Sv, S = Su ++ Sv ∧ u = Su.map (fun i => xs.getD i z) ∧ v = Sv.map (fun i => xs.getD i z) := by
    refine ⟨S.take u.length, S.drop u.length, (List.take_append_drop _ _).symm, ?_, ?_⟩
    · rw [List.map_take, ← h3]; simp
    · rw [List.map_drop, ← h3]; simp
  have hlt : ∀ i ∈ Su ++ Sv, i < xs.length := fun i hi => List.mem_range.1 (h1.mem_iff.1 hi)
  have hg : ∀ i, i < xs.length → (xs ++ [x]).getD i z = xs.getD i z := fun i hi => by
    rw [List.getD_eq_getElem?_getD, List.getD_eq_getElem?_getD, List.getElem?_append_left hi]
  have hx : (xs ++ [x]).getD xs.length z = x := by simp [List.getD_eq_getElem?_getD]
  have hmu : Su.map (fun i => (xs ++ [x]).getD i z) = u := by
    rw [hSu]
    exact List.map_congr_left (fun i hi => hg i (hlt i (by simp [hi])))
  have hmv : Sv.map (fun i => (xs ++ [x]).getD i z) = v := by
    rw [hSv]
    exact List.map_congr_left (fun i hi => hg i (hlt i (by simp [hi])))
  refine ⟨Su ++ xs.length :: Sv, ?_, ?_, ?_⟩
  · rw [List.length_append, List.length_singleton, List.range_succ]
    exact List.perm_middle.trans ((List.Perm.cons _ h1).trans (List.perm_append_singleton _ _).symm)
  · have hp : ∀ i j, i ∈ Su ++ Sv → j ∈ Su ++ Sv → Lt (fun i j => f (xs.getD i z) (xs.getD j z)) i j → Lt (fun i j => f ((xs ++ [x]).getD i z) ((xs ++ [x]).getD j z)) i j := fun i j hi hj hl => by
      show f ((xs ++ [x]).getD i z) ((xs ++ [x]).getD j z) < 0 ∨ (f ((xs ++ [x]).getD i z) ((xs ++ [x]).getD j z) = 0 ∧ i < j)
      rw [hg i (hlt i hi), hg j (hlt j hj)]
      exact hl
    have h2' := List.pairwise_append.1 h2
    refine List.pairwise_append.2 ⟨?_, List.pairwise_cons.2 ⟨?_, ?_⟩, ?_⟩
    · exact h2'.1.imp_of_mem (fun hi hj hl => hp _ _ (by simp [hi]) (by simp [hj]) hl)
    · intro j hj
      refine .inl ?_
      show f _ _ < 0
      rw [hx, hg j (hlt j (by simp [hj]))]
      exact hv _ (by rw [hSv]; exact List.mem_map_of_mem hj)
    · exact h2'.2.1.imp_of_mem (fun hi hj hl => hp _ _ (by simp [hi]) (by simp [hj]) hl)
    · intro i hi j hj
      rcases List.mem_cons.1 hj with hj | hj
      · subst hj
        refine Lt.of_not (h.ok z (xs ++ [x])) (hlt i (by simp [hi])) ?_
        show ¬ f _ _ < 0
        rw [hx, hg i (hlt i (by simp [hi]))]
        exact hu _ (by rw [hSu]; exact List.mem_map_of_mem hi)
      · exact hp _ _ (by simp [hi]) (by simp [hj]) (h2'.2.2 i hi j hj)
  · rw [List.map_append, List.map_cons, hmu, hmv, hx]
theorem Sorts.nil {α : Type} (z : α) (f : α → α → Int) : Sorts z f [] [] := ⟨[], by simp, by simp, rfl⟩
end Go.Proofs.Ytghblnldokpceaa.QV
/- exec.Sort's comparison. -/
namespace Go.Proofs.Ytghblnldokpceaa.QV
open Go.RowKit Go.Proofs.YtghblnldokpceaaW.PrintWords Go.Proofs.Ytghblnldokpceaa.SeqW Go.Shelf Go.Proofs.Ytghblnldokpceaa.Op Go.Proofs.Ytghblnldokpceaa.Stab
set_option linter.unusedVariables false
set_option linter.unusedSimpArgs false
attribute [local go_sem] Oper.semAt_some
abbrev kO : Kd Ord := k77
theorem kO_at {w : World} {A : Option Addr} {xs : List Ord} (h : kO.C w A xs.length xs) (i : Nat) (hi : i < xs.length) : ∃ ad, A = some ad ∧ w.cell? (ad.add (i * 2)) = some (.int .i64 (xs.getD i z77).f0) ∧ w.cell? ⟨(ad.add (i * 2)).block, (ad.add (i * 2)).off + 1, none⟩ = some (.bool (xs.getD i z77).f1) := by
  obtain ⟨ad, c, e, _, hK, hc0⟩ := Kd.C_get h z77 i (by omega) (by omega)
  have hc : ∀ j u, c[j]? = some u → w.cell? (ad.add (i * 2 + j)) = some u := hc0
  obtain rfl := k77_open hK
  exact ⟨ad, e, hc 0 _ rfl, by rw [← add_field _ _ 1 (by omega)]; exact hc 1 _ rfl⟩
def signed (d : Bool) (n : Int) : Int := if d then -n else n
theorem ordS_cons (o : Ord) (l : List Ord) (a b : Row) : ordS (o :: l) a b = if signed o.f1 (cmpV (toV (atS a o.f0)) (toV (atS b o.f0))) ≠ 0 then signed o.f1 (cmpV (toV (atS a o.f0)) (toV (atS b o.f0))) else ordS l a b := rfl

set_option maxRecDepth 100000 in
set_option maxHeartbeats 4000000 in
theorem cmpO_any (l : List Ord) (Al : Option Addr) (cl B : Nat) (A : Option Addr) (a : Row) (ca : Nat) (D : Option Addr) (b : Row) (cb : Nat) (w : World) (hB : w.cell? ⟨B, 0, none⟩ = some (.slice Al l.length cl)) (hl : kO.C w Al l.length l) (ha : kS.C w A a.length a) (hca : a.length ≤ ca) (hb : kS.C w D b.length b) (hcb : b.length ≤ cb) :
    Calls Try.prog 51 #[.slice A a.length ca, .slice D b.length cb, .pointer (some ⟨B, 0, none⟩)] w fun e w' => e = .returned (.int .i64 (ordS l a b)) ∧ Below w.heap.size w w' := by
  have hml := hl.2.1
  go_enter Try.func51, Try.ntmps51
  go_wp2_with fail
  go_loopw [11] (fun iv wr => ∃ i : Nat, i ≤ l.length ∧ iv = .int .i64 (i : Int) ∧ ordS l a b = ordS (l.drop i) a b ∧ Below w.heap.size w wr) (fun iv _ => l.length - (intOf iv).toNat)
  case atStart => exact ⟨0, Nat.zero_le _, rfl, rfl, Below.refl _ _⟩
  case round =>
    obtain ⟨i, hi, rfl, hE, hb0⟩ := hrel
    have HE := Lib.hid hE
    clear hE
    by_cases hlt : i < l.length
    · obtain ⟨ad, rfl, e0, e1⟩ := kO_at (Kd.C_below hl hb0) i hlt
      have hd := drop_get z77 l i hlt
      generalize l.getD i z77 = o at e0 e1 hd
      obtain ⟨oc, od⟩ := o
      simp only at e0 e1
      have hoc := ordS_cons ⟨oc, od⟩ (l.drop (i + 1)) a b
      rw [← hd] at hoc
      simp only at hoc
      have hat := at_f a oc
      have hbt := at_f b oc
      obtain ⟨va, hva⟩ : ∃ v, atS a oc = v := ⟨_, rfl⟩
      obtain ⟨vb, hvb⟩ : ∃ v, atS b oc = v := ⟨_, rfl⟩
      rw [hva] at hat
      rw [hvb] at hbt
      rw [hva, hvb] at hoc
      clear hva hvb hd
      obtain ⟨p0, p1, p2, p3⟩ := va
      obtain ⟨q0, q1, q2, q3⟩ := vb
      simp only at hat hbt
      obtain ⟨n, hn⟩ : ∃ n, cmpV (toV ⟨p0, p1, p2, p3⟩) (toV ⟨q0, q1, q2, q3⟩) = n := ⟨_, rfl⟩
      have hnr := cmpV_range (toV ⟨p0, p1, p2, p3⟩) (toV ⟨q0, q1, q2, q3⟩)
      rw [hn] at hoc hnr
      have HOC := Lib.hid hoc
      have HN := Lib.hid hn
      clear hoc hn
      go_wp2_with fail
      obtain ⟨w1, hw1⟩ : ∃ w1, wr.alloc (.cells #[.int .i64 oc, .bool od] 77) = w1 := ⟨_, rfl⟩
      rw [hw1]
      have hb1 : Below wr.heap.size wr w1 := by rw [← hw1]; exact below_alloc (Below.refl _ _) _
      have g1 : w1.heap[wr.heap.size]? = some (.cells #[.int .i64 oc, .bool od] 77 (0, 0)) := by rw [← hw1]; exact blk_new _ _
      clear hw1
      have hB1 : Below w.heap.size w w1 := hb0.trans (hb1.mono hb0.size)
      have keep : ∀ V, Below w1.heap.size w1 V → V.cell? ⟨wr.heap.size, 0, none⟩ = some (.int .i64 oc) ∧ V.cell? ⟨wr.heap.size, 1, none⟩ = some (.bool od) := fun V hV => ⟨blk_cell (blk_below g1 hV) 0, blk_cell (blk_below g1 hV) 1⟩
      have kd := below_drew (Below.refl w1.heap.size w1)
      refine (wpIn_wide (n := 0)).1 ?_
      refine wpIn_region_R (l := 0) 10 (S := fun V => V.cell? ⟨wr.heap.size, 0, none⟩ = some (.int .i64 oc) ∧ V.cell? ⟨wr.heap.size, 1, none⟩ = some (.bool od)) (by kernel_rfl) (keep _ kd) (fun hS0 => ?_)
      refine wpAnyR_take (i := 0) (oi := ⟨some 15, _, _, _, _, _⟩) (v := ?_) (by kernel_rfl) (by kernel_rfl) rfl (by kernel_rfl) (by kernel_rfl) (by kernel_rfl) (fun _ _ _ h => h) (Or.inl ⟨by rfl, ?_⟩) (by assumption) ?_
      rotate_left
      · intro w hSw; (try dsimp only at hSw); (try go_split_ands); go_simp; (try (with_reducible rfl))
      (try simp only [Act.put, List.setIfInBounds_toArray, List.set_cons_zero, List.set_cons_succ])
      refine wpAnyR_take (i := 1) (oi := ⟨some 16, _, _, _, _, _⟩) (v := ?_) (by kernel_rfl) (by kernel_rfl) rfl (by kernel_rfl) (by kernel_rfl) (by kernel_rfl) (fun _ _ _ h => h) (Or.inl ⟨by rfl, ?_⟩) (by assumption) ?_
      rotate_left
      · intro w hSw; (try dsimp only at hSw); (try go_split_ands); go_simp; (try (with_reducible rfl))
      (try simp only [Act.put, List.setIfInBounds_toArray, List.set_cons_zero, List.set_cons_succ])
      refine wpAnyR_take (i := 2) (oi := ⟨some 17, _, _, _, _, _⟩) (v := ?_) (by kernel_rfl) (by kernel_rfl) rfl (by kernel_rfl) (by kernel_rfl) (by kernel_rfl) (fun _ _ _ h => h) (Or.inl ⟨by rfl, ?_⟩) (by assumption) ?_
      rotate_left
      · intro w hSw; (try dsimp only at hSw); (try go_split_ands); go_simp; (try (with_reducible rfl))
      (try simp only [Act.put, List.setIfInBounds_toArray, List.set_cons_zero, List.set_cons_succ])
      refine wpAnyR_take (i := 4) (oi := ⟨some 19, _, _, _, _, _⟩) (v := ?_) (by kernel_rfl) (by kernel_rfl) rfl (by kernel_rfl) (by kernel_rfl) (by kernel_rfl) (fun _ _ _ h => h) (Or.inl ⟨by rfl, ?_⟩) (by assumption) ?_
      rotate_left
      · intro w hSw; (try dsimp only at hSw); (try go_split_ands); go_simp; (try (with_reducible rfl))
      (try simp only [Act.put, List.setIfInBounds_toArray, List.set_cons_zero, List.set_cons_succ])
      refine wpAnyR_take (i := 5) (oi := ⟨some 20, _, _, _, _, _⟩) (v := ?_) (by kernel_rfl) (by kernel_rfl) rfl (by kernel_rfl) (by kernel_rfl) (by kernel_rfl) (fun _ _ _ h => h) (Or.inl ⟨by rfl, ?_⟩) (by assumption) ?_
      rotate_left
      · intro w hSw; (try dsimp only at hSw); (try go_split_ands); go_simp; (try (with_reducible rfl))
      (try simp only [Act.put, List.setIfInBounds_toArray, List.set_cons_zero, List.set_cons_succ])
      refine wpAnyR_take (i := 6) (oi := ⟨some 21, _, _, _, _, _⟩) (v := ?_) (by kernel_rfl) (by kernel_rfl) rfl (by kernel_rfl) (by kernel_rfl) (by kernel_rfl) (fun _ _ _ h => h) (Or.inl ⟨by rfl, ?_⟩) (by assumption) ?_
      rotate_left
      · intro w hSw; (try dsimp only at hSw); (try go_split_ands); go_simp; (try (with_reducible rfl))
      (try simp only [Act.put, List.setIfInBounds_toArray, List.set_cons_zero, List.set_cons_succ])
      refine wpAnyR_one (i := 3) (o := ⟨some 18, _, _, _, _, _⟩) (by kernel_rfl) (by kernel_rfl) rfl (fun K hK => ?_)
      go_simp
      refine (exec_at.calls A ca a oc _ _ _ _ w1.drew (Kd.C_drew (Kd.C_below ha hB1)) hca hat).mono ?_
      rintro e w2 ⟨rfl, hb2⟩
      have k2 := kd.trans hb2
      have hS2 := keep _ k2
      (try dsimp only)
      refine hK.out _ _ (.inr hS2) ?_
      clear hK K
      (try simp only [Act.put, List.setIfInBounds_toArray, List.set_cons_zero, List.set_cons_succ])
      refine wpAnyR_one (i := 7) (o := ⟨some 22, _, _, _, _, _⟩) (by kernel_rfl) (by kernel_rfl) rfl (fun K hK => ?_)
      go_simp
      refine (exec_at.calls D cb b oc _ _ _ _ w2 (Kd.C_below (Kd.C_below hb hB1) k2) hcb hbt).mono ?_
      rintro e w3 ⟨rfl, hb3⟩
      have k3 := k2.trans (hb3.mono k2.size)
      have hS3 := keep _ k3
      (try dsimp only)
      refine hK.out _ _ (.inr hS3) ?_
      clear hK K
      (try simp only [Act.put, List.setIfInBounds_toArray, List.set_cons_zero, List.set_cons_succ])
      refine wpAnyR_one (i := 8) (o := ⟨some 23, _, _, _, _, _⟩) (by kernel_rfl) (by kernel_rfl) rfl (fun K hK => ?_)
      go_simp
      refine (value_Compare.calls p0 p1 p2 p3 q0 q1 q2 q3 n w3 (by rw [← HN.out]; rfl)).mono ?_
      rintro e w4 ⟨rfl, hb4⟩
      have k4 := k3.trans (hb4.mono k3.size)
      have hS4 := keep _ k4
      obtain ⟨e41, e42⟩ := hS4
      have hS4 := And.intro e41 e42
      (try dsimp only)
      refine hK.out _ _ (.inr hS4) ?_
      clear hK K
      (try simp only [Act.put, List.setIfInBounds_toArray, List.set_cons_zero, List.set_cons_succ])
      refine wpAnyR_take (i := 9) (oi := ⟨some 8, _, _, _, _, _⟩) (v := ?_) (by kernel_rfl) (by kernel_rfl) rfl (by kernel_rfl) (by kernel_rfl) (by kernel_rfl) (fun _ _ _ h => h) (Or.inl ⟨by rfl, ?_⟩) (by assumption) ?_
      rotate_left
      · intro w hSw; (try dsimp only at hSw); (try go_split_ands); go_simp; (try (with_reducible rfl))
      (try simp only [Act.put, List.setIfInBounds_toArray, List.set_cons_zero, List.set_cons_succ])
      refine wpAnyR_done (by kernel_rfl) ?_ _
      have hB4 : Below w.heap.size w w4 := hB1.trans (k4.mono hB1.size)
      have hng : IntKind.i64.wrap (-n) = -n := by rw [IntKind.wrap_i64]; omega
      have hoc := HOC.out
      clear HOC
      cases od with
      | false =>
        simp only [signed, Bool.false_eq_true, if_false] at hoc
        by_cases h0 : n = 0
        · subst h0
          rw [if_neg (by omega)] at hoc
          have HOC := Lib.hid hoc
          clear hoc
          go_wp2
          go_roundw
          case rel => exact ⟨i + 1, by omega, by go_num, HE.out.trans HOC.out, hB4⟩
          case measure => simp [intOf]; omega
        · rw [if_pos h0] at hoc
          have HOC := Lib.hid hoc
          clear hoc
          have h0b : (n != 0) = true := by simpa using h0
          go_wp2
          go_ret
          exact ⟨by rw [HE.out, HOC.out]; rfl, hB4⟩
      | true =>
        simp only [signed, if_true] at hoc
        by_cases h0 : n = 0
        · subst h0
          rw [if_neg (by omega)] at hoc
          have HOC := Lib.hid hoc
          clear hoc
          go_wp2
          go_roundw
          case rel => exact ⟨i + 1, by omega, by go_num, HE.out.trans HOC.out, hB4⟩
          case measure => simp [intOf]; omega
        · rw [if_pos (by omega)] at hoc
          have HOC := Lib.hid hoc
          clear hoc
          have h0n : ¬ -n = 0 := by omega
          have h0b : (-n != 0) = true := by simpa using h0n
          go_wp2
          go_ret
          exact ⟨by rw [HE.out, HOC.out]; rfl, hB4⟩
    · obtain rfl : i = l.length := by omega
      go_wp2_with fail
      refine (value_Rows.calls A ca a D cb b _ wr (Kd.C_below ha hb0) hca (Kd.C_below hb hb0) hcb rfl).mono ?_
      rintro e w2 ⟨rfl, hb2⟩
      go_wp2
      go_ret
      exact ⟨by rw [HE.out, List.drop_of_length_le (Nat.le_refl _)]; rfl, hb0.trans (hb2.mono hb0.size)⟩
end Go.Proofs.Ytghblnldokpceaa.QV
/- The reference's Sort sorts. -/
namespace Go.Proofs.Ytghblnldokpceaa.QV
open Go.RowKit Go.Proofs.YtghblnldokpceaaW.PrintWords Go.Proofs.Ytghblnldokpceaa.Op Go.Proofs.Ytghblnldokpceaa.Stab
set_option linter.unusedVariables false
set_option linter.unusedSimpArgs false
theorem ahead_step (o : Ord) (l : List Ord) (a b : Row) (n : Int) (h : cmpV (toV (atS a o.f0)) (toV (atS b o.f0)) = n) : decide (ordS (o :: l) a b < 0) = if n = 0 then decide (ordS l a b < 0) else (decide (n < 0) != o.f1) := by
  rw [ordS, h]
  cases o.f1 <;> by_cases h0 : n = 0 <;> by_cases h1 : n < 0 <;> simp [h0, h1] <;> omega
theorem ahead_loop (a b : Row) (l : List Ord) (hm : l.length ≤ 9223372036854775806) : ∀ (d i : Nat), i + d = l.length → Ev (fun k => hayloftref15_ahead.l0 k a b l (i : Int)) (decide (ordS (l.drop i) a b < 0)) := by
  intro d
  induction d with
  | zero =>
    intro i hi
    refine Ev.step (f := fun _ => some (decide (ordS (l.drop i) a b < 0))) (fun k => ?_) (Ev.now _)
    simp only [hayloftref15_ahead.l0]
    rw [if_neg (by omega), List.drop_of_length_le (by omega)]
    rfl
  | succ d ih =>
    intro i hi
    have hw : wrap64 ((i : Int) + 1) = ((i + 1 : Nat) : Int) := by unfold wrap64; omega
    have hra : rd_T77 l (i : Int) = l.getD i z77 := rfl
    have hd := drop_get z77 l i (by omega)
    generalize l.getD i z77 = o at hra hd
    have hax := refAt_f a o.f0
    have hay := refAt_f b o.f0
    obtain ⟨n, hn⟩ : ∃ n, cmpV (toV (atS a o.f0)) (toV (atS b o.f0)) = n := ⟨_, rfl⟩
    have hcv : hayloftref02_Compare.f (atS a o.f0).f0 (atS a o.f0).f1 (atS a o.f0).f2 (atS a o.f0).f3 (atS b o.f0).f0 (atS b o.f0).f1 (atS b o.f0).f2 (atS b o.f0).f3 = some n := by rw [← hn]; rfl
    rw [hd, ahead_step o _ a b n hn]
    refine Ev.step (f := fun k => if n = 0 then hayloftref15_ahead.l0 k a b l ((i + 1 : Nat) : Int) else some (decide (n < 0) != o.f1)) (fun k => ?_) ?_
    · simp only [hayloftref15_ahead.l0, hra, hw]
      rw [if_pos (by omega), if_pos (by omega)]
      simp only [hax, hay, Option.bind_some, hcv]
    · by_cases h0 : n = 0
      · simp only [if_pos h0]; exact ih (i + 1) (by omega)
      · simp only [if_neg h0]; exact Ev.now _
theorem ahead_f (a b : Row) (l : List Ord) (hm : l.length ≤ 9223372036854775806) : Ev (fun k => hayloftref15_ahead.f k a b l) (decide (ordS l a b < 0)) := ahead_loop a b l hm l.length 0 (by omega)

theorem sort_inner (xs : List Row) (l : List Ord) (hm : l.length ≤ 9223372036854775806) (hn : xs.length < 5864062014805) (i : Nat) (hi : i < xs.length) (out : List Row) (hs : Sorts [] (ordS l) (xs.take i) out) :
    ∀ (n : Nat) (u v : List Row), out = u ++ v → u.length = n → (∀ y ∈ v, ordS l (xs.getD i []) y < 0) →
      ∃ out', Sorts [] (ordS l) (xs.take (i + 1)) out' ∧ ∀ R, Ev (fun k => hayloftref15_Sort.l0 k xs l out' ((i + 1 : Nat) : Int)) R → Ev (fun k => hayloftref15_Sort.l1 k xs l out (i : Int) (n : Int)) R := by
  have hol : out.length = i := by rw [hs.len, List.length_take]; omega
  have hts := take_snoc' ([] : Row) xs i hi
  have hw : wrap64 ((i : Int) + 1) = ((i + 1 : Nat) : Int) := by unfold wrap64; omega
  have hra : rd_L4 xs (i : Int) = xs.getD i [] := rfl
  generalize xs.getD i [] = x at *
  intro n
  induction n with
  | zero =>
    intro u v huv hu hv
    obtain rfl : u = [] := List.eq_nil_of_length_eq_zero hu
    refine ⟨[] ++ x :: v, by rw [← hts]; exact Sorts.snoc (preOrd l) (by rw [← huv]; exact hs) hv (by simp), fun R hR => ?_⟩
    rw [List.nil_append] at huv
    subst huv
    refine Ev.step (fun k => ?_) hR
    simp only [hayloftref15_Sort.l1, hra, hw]
    rw [if_neg (by omega), if_pos (by omega), if_pos (by omega)]
    simp only [Option.bind_some, Int.natCast_zero, Int.toNat_zero, List.take_zero, List.drop_zero, List.nil_append, List.length_nil, List.length_singleton]
    rw [if_pos (by omega), if_pos (by omega), if_pos (by omega), if_pos (by omega), if_pos (by omega)]
    rfl
  | succ n ih =>
    intro u v huv hu hv
    obtain ⟨u', y, rfl⟩ : ∃ u' y, u = u' ++ [y] := by
      rcases List.eq_nil_or_concat u with h | ⟨u', y, h⟩
      · rw [h] at hu; simp at hu
      · exact ⟨u', y, by rw [h, List.concat_eq_append]⟩
    have hu' : u'.length = n := by simpa using hu
    have hnl0 : n < out.length := by rw [huv]; simp; omega
    have hwn : wrap64 (((n + 1 : Nat) : Int) - 1) = (n : Int) := by unfold wrap64; omega
    have hro : rd_L4 out (n : Int) = y := by
      show out.getD (n : Int).toNat [] = y
      rw [huv, ← hu', Int.toNat_natCast]
      simp [List.getD_eq_getElem?_getD]
    have hnl : n < out.length := by rw [huv]; simp; omega
    have hah := ahead_f x y l hm
    by_cases hb : ordS l x y < 0
    · obtain ⟨out', h1, h2⟩ := ih u' (y :: v) (by rw [huv]; simp) hu' (fun t ht => by
        rcases List.mem_cons.1 ht with ht | ht
        · rw [ht]; exact hb
        · exact hv t ht)
      refine ⟨out', h1, fun R hR => ?_⟩
      rw [decide_eq_true hb] at hah
      refine Ev.step (f := fun k => (hayloftref15_ahead.f k x y l).bind fun t => if t = true then hayloftref15_Sort.l1 k xs l out (i : Int) (n : Int) else hayloftref15_Sort.l1 (k + 1) xs l out (i : Int) ((n + 1 : Nat) : Int)) (fun k => ?_) ?_
      · cases hk : hayloftref15_ahead.f k x y l with
        | none =>
          simp only [hayloftref15_Sort.l1, hra, hwn, hro, hk]
          rw [if_pos (by omega), if_pos (by omega), if_pos (by omega), if_pos (by omega), if_pos (by omega)]
          rfl
        | some t =>
          cases t with
          | false => simp
          | true =>
            simp only [hayloftref15_Sort.l1, hra, hwn, hro, hk, Option.bind_some, if_true]
            rw [if_pos (by omega), if_pos (by omega), if_pos (by omega), if_pos (by omega), if_pos (by omega)]
      · refine hah.bind ?_
        simp only [if_true]
        exact h2 R hR
    · refine ⟨(u' ++ [y]) ++ x :: v, ?_, fun R hR => ?_⟩
      · rw [← hts]
        refine Sorts.snoc (preOrd l) (by rw [← huv]; exact hs) hv ?_
        have hso := hs.sorted
        rw [huv, List.append_assoc] at hso
        intro t ht hlt
        rcases List.mem_append.1 ht with ht | ht
        · have h1 := (List.pairwise_append.1 hso).2.2 t ht y (by simp)
          exact hb ((preOrd l).lt_le hlt h1)
        · rw [List.mem_singleton.1 ht] at hlt
          exact hb hlt
      · rw [decide_eq_false hb] at hah
        refine Ev.step (f := fun k => (hayloftref15_ahead.f k x y l).bind fun t => if t = true then hayloftref15_Sort.l1 k xs l out (i : Int) (n : Int) else hayloftref15_Sort.l0 k xs l ((u' ++ [y]) ++ x :: v) ((i + 1 : Nat) : Int)) (fun k => ?_) ?_
        · simp only [hayloftref15_Sort.l1, hra, hwn, hro, hw]
          have ht1 : out.take ((n + 1 : Nat) : Int).toNat = u' ++ [y] := by rw [huv, Int.toNat_natCast]; exact List.take_left' (by simp; omega)
          have ht2 : out.drop ((n + 1 : Nat) : Int).toNat = v := by rw [huv, Int.toNat_natCast]; exact List.drop_left' (by simp; omega)
          have hvl : u'.length + 1 + v.length = i := by rw [← hol, huv]; simp; omega
          rw [if_pos (by omega), if_pos (by omega), if_pos (by omega), if_pos (by omega), if_pos (by omega)]
          congr 1
          funext t
          split
          · rfl
          · rw [if_pos (by omega), if_pos (by omega), ht1, ht2]
            simp only [Option.bind_some, List.nil_append, List.length_nil, List.length_append, List.length_singleton]
            rw [if_pos (by omega), if_pos (by omega), if_pos (by omega)]
            simp
        · refine hah.bind ?_
          simp only [Bool.false_eq_true, if_false]
          exact hR
theorem sort_loop (xs : List Row) (l : List Ord) (hm : l.length ≤ 9223372036854775806) (hn : xs.length < 5864062014805) : ∀ (d i : Nat) (out : List Row), i + d = xs.length → Sorts [] (ordS l) (xs.take i) out → ∃ R, Sorts [] (ordS l) xs R ∧ Ev (fun k => hayloftref15_Sort.l0 k xs l out (i : Int)) R := by
  intro d
  induction d with
  | zero =>
    intro i out hi hs
    refine ⟨out, by rwa [List.take_of_length_le (by omega)] at hs, ?_⟩
    refine Ev.step (f := fun _ => some out) (fun k => ?_) (Ev.now _)
    simp only [hayloftref15_Sort.l0]
    rw [if_neg (by omega)]
  | succ d ih =>
    intro i out hi hs
    obtain ⟨out', h1, h2⟩ := sort_inner xs l hm hn i (by omega) out hs out.length out [] (by simp) rfl (by simp)
    obtain ⟨R, h3, h4⟩ := ih (i + 1) out' (by omega) h1
    refine ⟨R, h3, ?_⟩
    refine Ev.step (fun k => ?_) (h2 R h4)
    simp only [hayloftref15_Sort.l0]
    rw [if_pos (by omega)]
theorem refSort_f (xs : List Row) (l : List Ord) (hm : l.length ≤ 9223372036854775806) (hn : xs.length < 5864062014805) : ∃ k R, Sorts [] (ordS l) xs R ∧ hayloftref15_Sort.f k xs l = some R := by
  obtain ⟨R, h1, h2⟩ := sort_loop xs l hm hn xs.length 0 [] (by omega) (by simpa using Sorts.nil [] (ordS l))
  obtain ⟨k, hk⟩ := h2.rounds
  exact ⟨k, R, h1, hk⟩
end Go.Proofs.Ytghblnldokpceaa.QV
/- exec.Sort, walked. -/
namespace Go.Proofs.Ytghblnldokpceaa.QV
open Go.RowKit Go.Proofs.YtghblnldokpceaaW.PrintWords Go.Proofs.Ytghblnldokpceaa.SeqW Go.Shelf Go.Proofs.Ytghblnldokpceaa.Op Go.Proofs.Ytghblnldokpceaa.Stab
set_option linter.unusedVariables false
set_option linter.unusedSimpArgs false

/-- A list of rows of one's own, as the sort takes it. -/
theorem rows_enc {W : World} {base : Nat} {ok : Nat → Prop} {v : Value} {xs : List Row} (hS : Kd.S kRows tRow W base ok v xs) (hn : 0 < xs.length) :
    ∃ g cap enc rest, v = .slice (some ⟨g, 0, none⟩) xs.length cap ∧ xs.length ≤ cap ∧ base ≤ g ∧ g < W.heap.size ∧ El enc rest g (List.range xs.length) W ∧
      ∀ i, ∃ A c, enc i = .slice A (xs.getD i []).length c ∧ (xs.getD i []).length ≤ c ∧ ∀ V, Seq.Kpt (fun j => j = g) W V → kS.C V A (xs.getD i []).length (xs.getD i []) := by
  obtain ⟨g, cap, rfl, hgb, hgl, cells, hcells⟩ := Kd.S_form hS hn
  have hle := (Kd.S_reads' hS).2.1
  have hget : ∀ i, i < xs.length → ∃ A c, cells[i]? = some (.slice A (xs.getD i []).length c) ∧ (xs.getD i []).length ≤ c ∧ ∀ V, Seq.Kpt (fun j => j = g) W V → kS.C V A (xs.getD i []).length (xs.getD i []) := by
    intro i hi
    obtain ⟨cs, hcl, hM, hcc⟩ := Kd.S_get hS [] (i : Int) (by omega) (by omega)
    rw [Int.toNat_natCast] at hM hcc
    obtain ⟨u, rfl, hR⟩ := hM
    have hsz : kRows.sz = 1 := rfl
    have hc0 := hcc 0 u rfl
    rw [hsz, Nat.mul_one, Nat.add_zero] at hc0
    have hc1 : W.cell? ⟨g, i, none⟩ = some u := by rwa [add_plain] at hc0
    rw [blk_cell hcells] at hc1
    obtain ⟨A, c, rfl, hlx, hC⟩ := Kd.R_reads hR
    refine ⟨A, c, hc1, hlx, fun V hV => ?_⟩
    have hRV : kS.R tS V base (fun k => (ok k ∧ some k ≠ (Value.slice (some ⟨g, 0, none⟩) xs.length cap).ownBlock) ∧ k < W.heap.size) (.slice A (xs.getD i []).length c) (xs.getD i []) := by
      refine Kd.R_move (Kd.R_mono (Kd.R_bound hR) (fun k hk => ⟨hk.1, hk.2.2.1⟩)) (fun k hk => hV.block k hk.2 (fun e => hk.1.2 (by rw [e]; rfl)))
    obtain ⟨A', c', e, _, hC'⟩ := Kd.R_reads hRV
    injection e with e1 e2 e3
    rw [e1]; exact hC'
  have hsz : xs.length ≤ cells.size := by
    obtain ⟨A, c, h, _⟩ := hget (xs.length - 1) (by omega)
    have := (Array.getElem?_eq_some_iff.1 h).1
    omega
  refine ⟨g, cap, fun i => if i < xs.length then cells.getD i .nilFunc else .slice none 0 0, cells.toList.drop xs.length, rfl, hle, hgb, hgl, ?_, fun i => ?_⟩
  · refine hcells.trans ?_
    congr 3
    refine Array.toList_inj.1 ?_
    rw [List.toList_toArray]
    have : (List.range xs.length).map (fun i => if i < xs.length then cells.getD i .nilFunc else .slice none 0 0) = cells.toList.take xs.length := by
      refine List.ext_getElem (by simp; omega) (fun i h1 h2 => ?_)
      have hi : i < xs.length := by simpa using h1
      simp [hi, Array.getD_eq_getD_getElem?, Array.getElem?_eq_getElem (show i < cells.size by omega)]
    rw [this, List.take_append_drop]
  · by_cases hi : i < xs.length
    · obtain ⟨A, c, h1, h2, h3⟩ := hget i hi
      refine ⟨A, c, ?_, h2, h3⟩
      simp only [if_pos hi, Array.getD_eq_getD_getElem?, h1, Option.getD_some]
    · have hx : xs.getD i [] = [] := by rw [List.getD_eq_getElem?_getD, List.getElem?_eq_none (by omega)]; rfl
      refine ⟨none, 0, ?_, ?_, fun V _ => ?_⟩
      · simp only [if_neg hi, hx, List.length_nil]
      · rw [hx]; simp
      · rw [hx]; simp [Kd.C, ReadsRow]
/-- What is read once it is sorted. -/
theorem enc_rows {W : World} {enc : Nat → Value} {rest : List Value} {g : Nat} {S : List Nat} {xs : List Row} (hE : El enc rest g S W) (hmax : S.length ≤ 9223372036854775807)
    (henc : ∀ i, ∃ A c, enc i = .slice A (xs.getD i []).length c ∧ (xs.getD i []).length ≤ c ∧ kS.C W A (xs.getD i []).length (xs.getD i [])) :
    kRows.C W (some ⟨g, 0, none⟩) (S.map (fun i => xs.getD i [])).length (S.map (fun i => xs.getD i [])) := by
  refine ⟨rfl, by rw [List.length_map]; exact hmax, fun _ => ⟨_, rfl, fun j p hj => ?_⟩⟩
  rw [List.getElem?_map] at hj
  obtain ⟨i, hi, rfl⟩ := Option.map_eq_some_iff.1 hj
  obtain ⟨A, c, h1, h2, h3⟩ := henc i
  have hc : W.cell? ⟨g, j, none⟩ = some (enc i) := by
    rw [blk_cell hE]
    have hjl : j < S.length := (List.getElem?_eq_some_iff.1 hi).1
    rw [List.getElem?_toArray, List.getElem?_append_left (by simpa using hjl), List.getElem?_map, hi]
    rfl
  refine ⟨[enc i], rfl, ⟨A, c, by rw [h1], h2, h3⟩, fun k u hu => ?_⟩
  have hsz : kRows.sz = 1 := rfl
  cases k with
  | zero =>
    obtain rfl : enc i = u := by simpa using hu
    rw [hsz, Nat.mul_one, Nat.add_zero, add_plain]
    exact hc
  | succ k => simp at hu

set_option maxHeartbeats 1000000 in
theorem sortStable_nil (A : Option Addr) (c : Nat) (cv : Value) (hcv : ∃ gc lb, cv = .func (.func gc) #[] lb) (W : World) :
    Calls Try.prog 50 #[.slice A 0 c, cv] W fun e W' => e = .returned (.tuple #[]) ∧ W' = W := by
  obtain ⟨gc, lb, rfl⟩ := hcv
  have h1 : Calls Try.prog 79 #[.slice A 0 c, .int .i64 0, .int .i64 0, .func (.func gc) #[] lb] W fun e W' => e = .returned (.tuple #[]) ∧ W' = W := by
    go_enter Try.func79, Try.ntmps79
    go_wp2_with fail
    go_loopw [8] (fun i wr => i = .int .i64 1 ∧ wr = W) (fun i _ => 0)
    case atStart => exact ⟨rfl, rfl⟩
    case round =>
      obtain ⟨rfl, rfl⟩ := hrel
      go_wp2
      go_end0
      exact ⟨rfl, rfl⟩
  have h2 : Calls Try.prog 70 #[.slice A 0 c, .int .i64 0, .func (.func gc) #[] lb] W fun e W' => e = .returned (.tuple #[]) ∧ W' = W := by
    go_enter Try.func70, Try.ntmps70
    go_wp2_with fail
    go_loopw [7, 8] (fun a b wr => a = .int .i64 0 ∧ b = .int .i64 20 ∧ wr = W) (fun i _ _ => 0)
    case atStart => exact ⟨rfl, rfl, rfl⟩
    case round =>
      obtain ⟨rfl, rfl, rfl⟩ := hrel
      go_wp2_with fail
      refine h1.mono ?_
      rintro e w5 ⟨rfl, rfl⟩
      go_wp2_with fail
      go_loopw [6] (fun a wr => a = .int .i64 20 ∧ wr = w5) (fun i _ => 0)
      case atStart => exact ⟨rfl, rfl⟩
      case round =>
        obtain ⟨rfl, rfl⟩ := hrel
        go_wp2
        go_end0
        exact ⟨rfl, rfl⟩
  go_enter Try.func50, Try.ntmps50
  go_wp2_with fail
  refine h2.mono ?_
  rintro e w5 ⟨rfl, rfl⟩
  go_wp2
  go_end0
  exact ⟨rfl, rfl⟩

set_option maxRecDepth 100000 in
set_option maxHeartbeats 4000000 in
theorem sort_any (A0 : Option Addr) (c0 : Nat) (xs : List Row) (Al : Option Addr) (cl : Nat) (l : List Ord) (w : World) (hr : kRows.C w A0 xs.length xs) (hc : xs.length ≤ c0) (hl : kO.C w Al l.length l) (hcl : l.length ≤ cl)
    (hx : ∀ x ∈ xs, x.length ≤ 1048576) (hn : xs.length ≤ 5864062014800) :
    Calls Try.prog 24 #[.slice A0 xs.length c0, .slice Al l.length cl] w fun e w' => ∃ A c R, e = .returned (.slice A R.length c) ∧ R.length ≤ c ∧ kRows.C w' A R.length R ∧ Sorts [] (ordS l) xs R ∧ Below w.heap.size w w' := by
  go_enter Try.func24, Try.ntmps24
  go_wp2_with fail
  obtain ⟨w1, hw1⟩ : ∃ w1, w.alloc (.cells #[.slice Al l.length cl] 51) = w1 := ⟨_, rfl⟩
  rw [hw1]
  have hb1 : Below w.heap.size w w1 := by rw [← hw1]; exact below_alloc (Below.refl _ _) _
  have g1 : w1.heap[w.heap.size]? = some (.cells #[.slice Al l.length cl] 51 (0, 0)) := by rw [← hw1]; exact blk_new _ _
  clear hw1
  have hz1 := blk_lt g1
  go_loopw [5, 10] (fun v i wr => ∃ k : Nat, k ≤ xs.length ∧ i = .int .i64 k ∧ Kd.S kRows tRow wr w1.heap.size (fun _ => True) v (xs.take k) ∧ Below w1.heap.size w1 wr) (fun _ i _ => xs.length - (intOf i).toNat)
  case atStart => exact ⟨0, Nat.zero_le _, rfl, Kd.S_nil _ _ _ _ _, Below.refl _ _⟩
  case round =>
    obtain ⟨k, hk, rfl, hS, hB⟩ := hrel
    have hBw : Below w.heap.size w wr := hb1.trans (hB.mono hb1.size)
    by_cases hlt : k < xs.length
    · obtain ⟨ad, cs, rfl, _, ⟨Ad, cp, rfl, hle, hC⟩, hcs⟩ := Kd.C_get hr [] k (by omega) (by omega)
      rw [Int.toNat_natCast] at hle hC hcs
      have hsz : kRows.sz = 1 := rfl
      have hc0 := pw_cell_below hBw (hcs 0 _ rfl)
      rw [hsz, Nat.mul_one, Nat.add_zero] at hc0
      have hts := take_snoc' ([] : Row) xs k hlt
      have hlen : (xs.take k).length = k := by rw [List.length_take]; omega
      have hxl := hx _ (getD_mem [] hlt)
      generalize xs.getD k [] = x at *
      generalize xs.take k = P at *
      go_wp2_with fail
      refine (clone_any Ad x cp wr (Kd.C_below hC hBw) hle (by omega)).mono ?_
      rintro e w3 ⟨v3, rfl, hR3, hb3⟩
      obtain ⟨A3, c3, rfl, hle3, hC3⟩ := Kd.R_reads hR3
      have hB3 : Below w1.heap.size w1 w3 := hB.trans (hb3.mono hB.size)
      have hS3 : Kd.S kRows tRow w3 w1.heap.size (fun k => True ∧ ¬ ((Value.slice A3 x.length c3).ownBlock = some k)) u5 P := by
        refine Kd.S_mono (Kd.S_below (Kd.S_bound hS) hb3) (fun k hk => ⟨trivial, fun h => ?_⟩)
        have := Kd.R_base hR3 k h
        exact absurd this (by show ¬ wr.heap.size ≤ k; have := hk.2.2.1; omega)
      have hzr := hB.size
      have hz3 := hb3.size
      go_wp2_with (at_builtin; refine Kd.S_append kRows (w0 := w1) (W := w3) w1.heap.size rfl (.tmp 14) (.tmp 17) 22 31 _ 24 rfl Try.underlying22 infoRow rfl (by decide) (by decide) u5 P x [.slice A3 x.length c3] (fun _ => True) (fun k => (Value.slice A3 x.length c3).ownBlock = some k) rfl rfl ⟨_, rfl, RS_ok (Kd.R_lower hR3 (by omega)) (fun _ h => h)⟩ (fun k hk => ⟨trivial, fun e => by have h2 := Kd.S_lt hS k e.symm; have h3 := Kd.R_base hR3 k hk; omega⟩) (fun _ _ => trivial) hS3 hB3 (by omega) (by omega) ?_; intro v5 w5 hS5 hB5 hg5 hat5; clear hg5 hat5)
      go_roundw
      case rel => exact ⟨k + 1, by omega, by go_num, by rw [← hts]; exact hS5, hB5⟩
      case measure => simp [intOf]; omega
    · obtain rfl : k = xs.length := by omega
      rw [List.take_length] at hS
      by_cases h0 : xs.length = 0
      · obtain rfl : xs = [] := List.eq_nil_of_length_eq_zero h0
        obtain ⟨Af, cf, hv⟩ := Kd.S_slice hS
        subst hv
        go_wp2_with fail
        refine (sortStable_nil Af cf _ ⟨_, _, rfl⟩ wr).mono ?_
        rintro e w5 ⟨rfl, rfl⟩
        go_wp2
        go_ret
        refine ⟨Af, cf, [], rfl, Nat.zero_le _, ?_, Sorts.nil _ _, hBw⟩
        exact (Kd.S_reads' hS).2.2
      · obtain ⟨g, cap, enc, rest, hv, hcap, hgb, hgl, hE, henc⟩ := rows_enc hS (by omega)
        subst hv
        have hbox : wr.cell? ⟨w.heap.size, 0, none⟩ = some (.slice Al l.length cl) := blk_cell (blk_below g1 hB) 0
        have hcmp : CmpAt (fun i j => ordS l (xs.getD i []) (xs.getD j [])) enc 51 #[.pointer (some ⟨w.heap.size, 0, none⟩)] g wr := by
          intro i j V hV
          obtain ⟨Ai, ci, hi1, hi2, hi3⟩ := henc i
          obtain ⟨Aj, cj, hj1, hj2, hj3⟩ := henc j
          rw [hi1, hj1]
          have hVw : Below w1.heap.size wr V := hV.below hB.size (fun t _ e => by rw [e]; exact hgb)
          exact cmpO_any l Al cl w.heap.size Ai _ ci Aj _ cj V (blk_cell (blk_below g1 (hB.trans hVw)) 0) (Kd.C_below hl (hBw.trans (hV.below hBw.size (fun t _ e => by rw [e]; omega)))) (hi3 V hV) hi2 (hj3 V hV) hj2
        go_wp2_with fail
        refine (sortStable_any g xs.length cap _ _ _ ((preOrd l).ok [] xs) enc rest (by omega) (fun args w => rfl) (fun i => by obtain ⟨A, c, h, _⟩ := henc i; exact ⟨A, _, c, h⟩) (List.range xs.length) wr hE (by simp) List.pairwise_lt_range hcmp).mono ?_
        rintro e w5 ⟨rfl, S, hp, hs, hk5, hE5⟩
        go_wp2
        go_ret
        have hSl : S.length = xs.length := by rw [hp.length_eq, List.length_range]
        have hml : (S.map (fun i => xs.getD i [])).length = xs.length := by rw [List.length_map, hSl]
        refine ⟨some ⟨g, 0, none⟩, cap, S.map (fun i => xs.getD i []), by rw [hml]; rfl, by omega, enc_rows hE5 (by omega) (fun i => ?_), ⟨S, hp, hs, rfl⟩, ?_⟩
        · obtain ⟨A, c, h1, h2, h3⟩ := henc i
          exact ⟨A, c, h1, h2, h3 w5 hk5⟩
        · exact hBw.trans (hk5.below hBw.size (fun t _ e => by rw [e]; omega))
end Go.Proofs.Ytghblnldokpceaa.QV
/- slices.Values, exec.Join as functions; hayloftlaw15.twice over what an iterator gives. -/
namespace Go.Proofs.Ytghblnldokpceaa.QV
open Go.RowKit Go.Proofs.YtghblnldokpceaaW.PrintWords Go.Proofs.Ytghblnldokpceaa.Seq Go.Shelf Go.Proofs.Ytghblnldokpceaa.Op
set_option linter.unusedVariables false
set_option linter.unusedSimpArgs false
attribute [local go_sem] Oper.semAt_some

theorem values_is (A : Option Addr) (xs : List Row) (c : Nat) (w : World) (hr : kRows.C w A xs.length xs) :
    Calls Try.prog 13 #[.slice A xs.length c] w fun e w' => ∃ v, e = .returned v ∧ IsSeq w' v xs ∧ Below w.heap.size w w' := by
  refine (values_any (.slice A xs.length c) ⟨_, _, _, rfl⟩ w).mono ?_
  rintro e w' ⟨rfl, hw'⟩
  have hb : Below w.heap.size w w' := by rw [hw']; exact below_alloc (Below.refl _ _) _
  refine ⟨_, rfl, ⟨_, _, RdOld w', rfl, fun args w => rfl, values_seq A xs c w.heap.size w' ?_ ?_ (Kd.C_below hr hb), fun A B N x vs h hk => h.kept hk, fun A N x vs h => ?_⟩, hb⟩
  · rw [hw']; simp
  · rw [hw']; exact blk_cell (blk_new _ _) 0
  · obtain ⟨_, hA, Ad, c, rfl, hle, hC⟩ := h
    exact ⟨Ad, c, rfl, hle, Kd.C_below hC hA⟩

/-- An iterator's value whose rows are its consumer's own. -/
def IsOwn (w : World) (sv : Value) (xs : List Row) : Prop := ∃ g lb, sv = .func (.func g) #[] lb ∧ (∀ args w, (callFunc g args).run Try.prog w = .ok (.enter g args) w) ∧ SeqOf Try.prog g lb (RdNew w) xs w
theorem IsOwn.seq {w : World} {sv : Value} {xs : List Row} (h : IsOwn w sv xs) : IsSeq w sv xs := by
  obtain ⟨g, lb, h1, h2, h3⟩ := h
  exact ⟨g, lb, RdNew w, h1, h2, h3, fun A B N x vs h hk => h.kept hk, fun A N x vs h => h.reads⟩

set_option maxHeartbeats 1000000 in
theorem join_is (left right : List Row) (lo ro : Int) (svL svR : Value) (w : World) (hL : IsSeq w svL left) (hR : IsSeq w svR right)
    (hbR : ∀ x ∈ right, x.length ≤ 1048576) (hbL : ∀ x ∈ left, x.length ≤ 1048576) (hnR : right.length ≤ 1048576) :
    Calls Try.prog 12 #[svL, svR, .int .i64 lo, .int .i64 ro] w fun e w' => ∃ v, e = .returned v ∧ IsOwn w' v (joinL left right lo ro) ∧ Below w.heap.size w w' := by
  have HL := Lib.hid hL
  have HR := Lib.hid hR
  obtain ⟨gL, lbL, RdL, rfl, qL⟩ := hL
  obtain ⟨gR, lbR, RdR, rfl, qR⟩ := hR
  have hL : IsSeq w (.func (.func gL) #[] lbL) left := ⟨gL, lbL, RdL, rfl, qL⟩
  have hR : IsSeq w (.func (.func gR) #[] lbR) right := ⟨gR, lbR, RdR, rfl, qR⟩
  clear qL qR HL HR
  go_enter Try.func12, Try.ntmps12
  go_wp2
  go_ret
  obtain ⟨w', hw'⟩ : ∃ w', (((w.alloc (.cells #[.func (.func gL) #[] lbL] 28)).alloc (.cells #[.func (.func gR) #[] lbR] 28)).alloc (.cells #[.int .i64 lo] 3)).alloc (.cells #[.int .i64 ro] 3) = w' := ⟨_, rfl⟩
  rw [hw']
  have hb : Below w.heap.size w w' := by rw [← hw']; exact below_alloc (below_alloc (below_alloc (below_alloc (Below.refl _ _) _) _) _) _
  have g0 : w'.heap[w.heap.size]? = some (.cells #[.func (.func gL) #[] lbL] 28 (0, 0)) := by rw [← hw']; exact blk_alloc (blk_alloc (blk_alloc (blk_new _ _) _) _) _
  have g1 : w'.heap[w.heap.size + 1]? = some (.cells #[.func (.func gR) #[] lbR] 28 (0, 0)) := by
    have := blk_new (w.alloc (.cells #[.func (.func gL) #[] lbL] 28)) (.cells #[.func (.func gR) #[] lbR] 28)
    rw [World.size_alloc] at this
    rw [← hw']; exact blk_alloc (blk_alloc this _) _
  have g2 : w'.heap[w.heap.size + 2]? = some (.cells #[.int .i64 lo] 3 (0, 0)) := by
    have := blk_new ((w.alloc (.cells #[.func (.func gL) #[] lbL] 28)).alloc (.cells #[.func (.func gR) #[] lbR] 28)) (.cells #[.int .i64 lo] 3)
    rw [World.size_alloc, World.size_alloc] at this
    rw [← hw']; exact blk_alloc this _
  have g3 : w'.heap[w.heap.size + 3]? = some (.cells #[.int .i64 ro] 3 (0, 0)) := by
    have := blk_new (((w.alloc (.cells #[.func (.func gL) #[] lbL] 28)).alloc (.cells #[.func (.func gR) #[] lbR] 28)).alloc (.cells #[.int .i64 lo] 3)) (.cells #[.int .i64 ro] 3)
    rw [World.size_alloc, World.size_alloc, World.size_alloc] at this
    rw [← hw']; exact this
  exact ⟨_, rfl, ⟨_, _, rfl, fun args w => rfl, join_seq left right lo ro (.func (.func gL) #[] lbL) (.func (.func gR) #[] lbR) _ _ _ _ w' (hL.later hb) (hR.later hb) (blk_cell g1 0) (blk_cell g3 0) (blk_cell g0 0) (blk_cell g2 0) hbR hbL hnR⟩, hb⟩
end Go.Proofs.Ytghblnldokpceaa.QV
/- (exec.group).told where a count is asked. -/
namespace Go.Proofs.Ytghblnldokpceaa.QV
open Go.RowKit Go.Proofs.YtghblnldokpceaaW.PrintWords Go.Proofs.Ytghblnldokpceaa.Seq Go.Shelf Go.Proofs.Ytghblnldokpceaa.Op
set_option linter.unusedVariables false
set_option linter.unusedSimpArgs false

theorem int_any (n : Int) (w : World) : Calls Try.prog 67 #[.int .i64 n] w fun e w' => e = .returned (.agg #[.int .i64 2, .bool false, .int .i64 n, .string ⟨#[]⟩]) ∧ Below w.heap.size w w' := by
  go_enter Try.func67, Try.ntmps67
  go_wp2
  go_returns
  all_goals (first | exact ⟨rfl, below_alloc (Below.refl _ _) _⟩ | skip)

set_option maxRecDepth 100000 in
set_option maxHeartbeats 2000000 in
theorem told_count (KA : Option Addr) (kn kc : Nat) (RA : Option Addr) (xs : List Row) (rc : Nat) (col : Int) (w : World) (hr : kRows.C w RA xs.length xs) (hbd : xs.length * 40 ≤ 140737488355328) :
    Calls Try.prog 45 #[.agg #[.slice KA kn kc, .slice RA xs.length rc], .agg #[.int .i64 0, .int .i64 col]] w fun e w' => e = .returned (.agg #[.int .i64 2, .bool false, .int .i64 xs.length, .string ⟨#[]⟩]) ∧ Below w.heap.size w w' := by
  have hmax := hr.2.1
  go_enter Try.func45, Try.ntmps45
  go_wp2
  obtain ⟨w2, hw2⟩ : ∃ w2, ((w.alloc (.cells #[.slice KA kn kc, .slice RA xs.length rc] 65)).alloc (.cells #[.int .i64 0, .int .i64 col] 48)).alloc (.cells #[.int .i64 0, .bool false, .int .i64 0, .string ⟨#[]⟩] 42) = w2 := ⟨_, rfl⟩
  rw [hw2]
  have hbw : Below w.heap.size w w2 := by rw [← hw2]; exact below_alloc (below_alloc (below_alloc (Below.refl _ _) _) _) _
  have g2 : w2.heap[w.heap.size]? = some (.cells #[.slice KA kn kc, .slice RA xs.length rc] 65 (0, 0)) := by rw [← hw2]; exact blk_alloc (blk_alloc (blk_new _ _) _) _
  have g3 : w2.heap[w.heap.size + 1]? = some (.cells #[.int .i64 0, .int .i64 col] 48 (0, 0)) := by
    have := blk_new (w.alloc (.cells #[.slice KA kn kc, .slice RA xs.length rc] 65)) (.cells #[.int .i64 0, .int .i64 col] 48)
    rw [World.size_alloc] at this
    rw [← hw2]; exact blk_alloc this _
  have g4 : w2.heap[w.heap.size + 1 + 1]? = some (.cells #[.int .i64 0, .bool false, .int .i64 0, .string ⟨#[]⟩] 42 (0, 0)) := by
    have := blk_new ((w.alloc (.cells #[.slice KA kn kc, .slice RA xs.length rc] 65)).alloc (.cells #[.int .i64 0, .int .i64 col] 48)) (.cells #[.int .i64 0, .bool false, .int .i64 0, .string ⟨#[]⟩] 42)
    rw [World.size_alloc, World.size_alloc] at this
    rw [← hw2]; exact this
  clear hw2
  go_loopw [5, 15] (fun l i wr => ∃ k : Nat, k ≤ xs.length ∧ i = .int .i64 k ∧ (∃ lst : Row, lst.length ≤ k ∧ kS.R tS wr w2.heap.size (fun _ => True) l lst) ∧ Below w2.heap.size w2 wr) (fun _ i _ => xs.length - (intOf i).toNat)
  case atStart => exact ⟨0, Nat.zero_le _, rfl, ⟨[], Nat.le_refl _, Kd.R_nil _ _ _ _ _⟩, Below.refl _ _⟩
  case round =>
    obtain ⟨k, hk, rfl, ⟨lst, hll, hl⟩, hB⟩ := hrel
    by_cases hlt : k < xs.length
    · have hr2 := Kd.C_below hr (hbw.trans (hB.mono hbw.size))
      obtain ⟨ad, cs, rfl, _, hK, hcs⟩ := Kd.C_get hr2 [] k (by omega) (by omega)
      obtain ⟨Ao, co, rfl, hleo, hCo⟩ := hK
      have hx : xs.getD (k : Int).toNat [] = xs.getD k [] := rfl
      rw [hx] at hleo hCo hcs
      have hc0 := hcs 0 _ rfl
      have hsz : kRows.sz = 1 := rfl
      rw [hsz, Int.toNat_natCast, Nat.mul_one, Nat.add_zero] at hc0
      generalize xs.getD k [] = x at *
      have ha := at_f x col
      generalize (atS x col).f0 = q0, (atS x col).f1 = q1, (atS x col).f2 = q2, (atS x col).f3 = q3 at ha
      have h31 := blk_cell (blk_below g3 hB) 1
      go_wp2_with fail
      refine (exec_at.calls Ao co x col _ _ _ _ wr hCo hleo ha).mono ?_
      rintro e W4 ⟨rfl, hb4⟩
      have hB4 : Below w2.heap.size w2 W4 := hB.trans (hb4.mono hB.size)
      have h30 := blk_cell (blk_alloc (blk_below g3 hB4) (.cells #[.int .i64 q0, .bool q1, .int .i64 q2, .string q3] 42)) 0
      have hl4 := Kd.R_below hl hb4
      by_cases hz : q0 = 0
      · subst hz
        go_wp2_with fail
        go_roundw
        case rel => exact ⟨k + 1, by omega, by go_num, ⟨lst, by omega, Kd.R_alloc hl4 _⟩, below_alloc hB4 _⟩
        case measure => simp [intOf]; omega
      · go_wp2_with (at_builtin; refine Kd.R_append kS (w0 := w2) w2.heap.size rfl (.tmp 36) (.tmp 38) 31 42 _ 40 rfl Try.underlying31 infoS rfl (by decide) (by decide) _ lst ⟨q0, q1, q2, q3⟩ [.int .i64 q0, .bool q1, .int .i64 q2, .string q3] (fun _ => True) (fun _ => False) rfl (slice_alloc _ _ _ _) (k42_mkM _ _ _ _) (fun _ h => h.elim) (fun _ _ => trivial) (Kd.R_alloc hl4 _) (below_alloc hB4 _) (by have := hB4.size; simp; omega) (by omega) ?_; intro v1 w1 hv1 hB1 hg1 hat1)
        go_roundw
        case rel => exact ⟨k + 1, by omega, by go_num, ⟨_, by simp; omega, hv1⟩, hB1⟩
        case measure => simp [intOf]; omega
    · obtain rfl : k = xs.length := by omega
      have h30 := blk_cell (blk_below g3 hB) 0
      have h21 := blk_cell (blk_below g2 hB) 1
      go_wp2_with fail
      refine (int_any _ _).mono ?_
      rintro e W5 ⟨rfl, hb5⟩
      have hB5 : Below w2.heap.size w2 W5 := hB.trans (hb5.mono hB.size)
      have hx4 := blk_below g4 hB5
      have n0 := blk_cell hx4 0
      have n1 := blk_cell hx4 1
      have n2 := blk_cell hx4 2
      have n3 := blk_cell hx4 3
      have m0 := blk_frozen hx4 0
      have m1 := blk_frozen hx4 1
      have m2 := blk_frozen hx4 2
      have m3 := blk_frozen hx4 3
      go_wp2_with fail
      refine bodyPost_ret (results_cell_row rfl _ _ (w.heap.size + 1 + 1) 42 #[.int .i64 2, .bool false, .int .i64 xs.length, .string ⟨#[]⟩] (0, 0) _ rfl (by have := blk_set (blk_set (blk_set (blk_set hx4 0 (.int .i64 2)) 1 (.bool false)) 2 (.int .i64 xs.length)) 3 (.string ⟨#[]⟩); simpa using this) Try.underlying42 rfl rfl) rfl ?_
      refine ⟨rfl, hbw.trans ((hB5.mono hbw.size).trans ?_)⟩
      have hk : ∀ (V : World) (j : Nat) (u : Value), Kpt (fun i => i = w.heap.size + 1 + 1) V (V.setCell ⟨w.heap.size + 1 + 1, j, none⟩ u) := fun V j u => Kpt.setCell V ⟨w.heap.size + 1 + 1, j, none⟩ u
      exact ((((hk _ _ _).trans (hk _ _ _) (fun _ _ h => h.elim id id)).trans (hk _ _ _) (fun _ _ h => h.elim id id)).trans (hk _ _ _) (fun _ _ h => h.elim id id)).below (by have := hbw.size; have := hB5.size; omega) (fun i _ e => by omega)
end Go.Proofs.Ytghblnldokpceaa.QV
/- The search for a group, of one group without a key. -/
namespace Go.Proofs.Ytghblnldokpceaa.QV
open Go.RowKit Go.Proofs.YtghblnldokpceaaW.PrintWords Go.Proofs.Ytghblnldokpceaa.Seq Go.Shelf Go.Proofs.Ytghblnldokpceaa.Op
set_option linter.unusedVariables false
set_option linter.unusedSimpArgs false

theorem cmpG_any (KA : Option Addr) (key : Row) (kc : Nat) (RA : Option Addr) (rn rc : Nat) (B : Option Addr) (k : Row) (bc : Nat) (w : World) (hk : kS.C w KA key.length key) (hkc : key.length ≤ kc) (hb : kS.C w B k.length k) (hbc : k.length ≤ bc) :
    Calls Try.prog 42 #[.agg #[.slice KA key.length kc, .slice RA rn rc], .slice B k.length bc] w fun e w' => e = .returned (.int .i64 (rowsV (key.map toV) (k.map toV))) ∧ Below w.heap.size w w' := by
  go_enter Try.func42, Try.ntmps42
  go_wp2_with fail
  refine (value_Rows.calls KA kc key B bc k _ _ (Kd.C_alloc hk _) hkc (Kd.C_alloc hb _) hbc rfl).mono ?_
  rintro e w1 ⟨rfl, hb1⟩
  go_wp2_with fail
  go_ret
  exact ⟨rfl, (below_alloc (Below.refl _ _) _).trans (hb1.mono (by simp))⟩

theorem search_one (g cap : Nat) (RA : Option Addr) (rn rc : Nat) (B : Option Addr) (bc : Nat) (w : World) (h0 : w.cell? ⟨g, 0, none⟩ = some (.slice none 0 0)) (h1 : w.cell? ⟨g, 1, none⟩ = some (.slice RA rn rc)) (hB : kS.C w B 0 []) :
    Calls Try.prog 41 #[.slice (some ⟨g, 0, none⟩) 1 cap, .slice B 0 bc, .func (.func 42) #[] #[]] w fun e w' => e = .returned (.tuple #[.int .i64 0, .bool true]) ∧ Below w.heap.size w w' := by
  go_enter Try.func41, Try.ntmps41
  go_wp2_with fail
  go_loopw [9, 10] (fun i j wr => i = .int .i64 0 ∧ (∃ m : Nat, m ≤ 1 ∧ j = .int .i64 m) ∧ Below w.heap.size w wr) (fun _ j _ => (intOf j).toNat)
  case atStart => exact ⟨rfl, ⟨1, by omega, rfl⟩, Below.refl _ _⟩
  case round =>
    obtain ⟨rfl, ⟨m, hm, rfl⟩, hBw⟩ := hrel
    have h0' := pw_cell_below hBw h0
    have h1' := pw_cell_below hBw h1
    rcases (by omega : m = 0 ∨ m = 1) with rfl | rfl
    · go_wp2_with fail
      refine (cmpG_any none [] 0 RA rn rc B [] bc _ (by simp [Kd.C, ReadsRow]) (by simp) (Kd.C_below hB hBw) (by simp)).mono ?_
      rintro e w1 ⟨rfl, hb1⟩
      go_wp2_with fail
      go_ret2
      exact ⟨rfl, hBw.trans (hb1.mono hBw.size)⟩
    · go_wp2_with fail
      refine (cmpG_any none [] 0 RA rn rc B [] bc _ (by simp [Kd.C, ReadsRow]) (by simp) (Kd.C_below hB hBw) (by simp)).mono ?_
      rintro e w1 ⟨rfl, hb1⟩
      have hr0 : rowsV (([] : Row).map toV) (([] : Row).map toV) = 0 := by simp [rowsV]
      rw [hr0]
      go_wp2_with fail
      go_roundw
      case rel => exact ⟨rfl, ⟨0, by omega, by go_num⟩, hBw.trans (hb1.mono hBw.size)⟩
      case measure => simp [intOf]
end Go.Proofs.Ytghblnldokpceaa.QV
/- exec.Group of one row without a key, where the rows are to be counted. -/
namespace Go.Proofs.Ytghblnldokpceaa.QV
open Go.RowKit Go.Proofs.YtghblnldokpceaaW.PrintWords Go.Proofs.Ytghblnldokpceaa.Seq Go.Shelf Go.Proofs.Ytghblnldokpceaa.Op
set_option linter.unusedVariables false
set_option linter.unusedSimpArgs false
attribute [local go_sem] Oper.semAt_some

/-- Between two rounds: one group, of the rows so far. -/
def GrpI (W : World) (cap : Nat) (pre : List Row) (M : Nat → Prop) (A : World) : Prop :=
  M W.heap.size ∧ M (W.heap.size + 1 + 1) ∧ A.heap[W.heap.size]? = some (.cells #[.slice (some ⟨W.heap.size + 1 + 1, 0, none⟩) 1 cap] 63 (0, 0)) ∧
    (∃ cs rv, A.heap[W.heap.size + 1 + 1]? = some (.cells cs 65 (0, 0)) ∧ cs[0]? = some (.slice none 0 0) ∧ cs[1]? = some rv ∧ Kd.S kRows tRow A W.heap.size (fun k => M k ∧ k ≠ W.heap.size ∧ k ≠ W.heap.size + 1 + 1) rv pre) ∧ (∀ i, M i → W.heap.size ≤ i) ∧ Below W.heap.size W A
theorem GrpI.kept {W : World} {cap : Nat} {pre : List Row} {M : Nat → Prop} {A B : World} {q : Nat → Prop} (h : GrpI W cap pre M A) (hq : ∀ i, q i → W.heap.size ≤ i) (hk : Kpt (fun i => q i ∧ ¬ M i) A B) : GrpI W cap pre M B := by
  obtain ⟨h1, h2, h3, ⟨cs, rv, h4, h5, h6, h7⟩, h8, h9⟩ := h
  exact ⟨h1, h2, hk.at h3 (fun h => h.2 h1), ⟨cs, rv, hk.at h4 (fun h => h.2 h2), h5, h6, Kd.S_step h7 (fun k hk' hlt => hk.block k hlt (fun h => h.2 hk'.1))⟩, h8, h9.trans (hk.below h9.size (fun i _ h => hq i h.1))⟩
theorem C_nil (w : World) : kS.C w none 0 [] := by simp [Kd.C, ReadsRow]
theorem clone_nil (w : World) : Calls Try.prog 33 #[.slice none 0 0] w fun e w' => e = .returned (.slice none 0 0) ∧ w' = w := by
  have hn := Lib.run_eql_slice_nil (P := Try.prog)
  go_enter Try.func33, Try.ntmps33
  go_wp2
  go_ret
  exact ⟨rfl, rfl⟩

def one1 : Row := [⟨2, false, 1, ⟨#[]⟩⟩]

set_option maxRecDepth 100000 in
set_option maxHeartbeats 4000000 in
theorem group_seq1 (row : Row) (sv : Value) (b1 b2 b3 ga ca : Nat) (w : World) (hR : IsSeq w sv [row])
    (h1 : w.cell? ⟨b1, 0, none⟩ = some (.slice none 0 0)) (h2 : w.cell? ⟨b2, 0, none⟩ = some sv) (h3 : w.cell? ⟨b3, 0, none⟩ = some (.slice (some ⟨ga, 0, none⟩) 1 ca)) (h4 : w.cell? ⟨ga, 0, none⟩ = some (.int .i64 0)) (h5 : w.cell? ⟨ga, 1, none⟩ = some (.int .i64 0))
    (hb : row.length ≤ 1048576) :
    SeqOf Try.prog 39 #[.pointer (some ⟨b1, 0, none⟩), .pointer (some ⟨b2, 0, none⟩), .pointer (some ⟨b3, 0, none⟩)] (RdNew w) [one1] w := by
  intro l J Jx W Mc hW hMc hJ hJx hY h0
  have hzw : w.heap.size ≤ W.heap.size := hW.size
  obtain ⟨gR, lbR, RdR, rfl, egR, hsR, hkR, hrR⟩ := hR
  refine (callsIn_wide (n := 0)).1 (callsIn_of_wp_marks Try.func39 rfl trivial ?_ rfl)
  simp only [Try.ntmps39, List.size_toArray, List.length_cons, List.length_nil, Nat.reduceAdd, Nat.reduceSub, Array.replicate_succ, Array.replicate_zero, List.push_toArray, List.append_toArray, List.nil_append, List.cons_append]
  have hbWa : Below W.heap.size W (W.alloc (.cells #[.slice none 0 0] 63)) := below_alloc (Below.refl _ _) _
  have d1 : (W.alloc (.cells #[.slice none 0 0] 63)).cell? ⟨b1, 0, none⟩ = some (.slice none 0 0) := pw_cell_below (hW.trans (hbWa.mono hzw)) h1
  obtain ⟨cap, hcap⟩ : ∃ cap, (Question.appendCap 1 0 65).cut (W.tape W.drawn (Question.appendCap 1 0 65)) = cap := ⟨_, rfl⟩
  obtain ⟨cs0, hcs0⟩ : ∃ cs0 : Array Value, #[Value.slice none 0 0, Value.slice none 0 0] ++ Builtin.zeroCells #[Value.slice none 0 0, Value.slice none 0 0] (cap - 1) = cs0 := ⟨_, rfl⟩
  obtain ⟨W1, hW1⟩ : ∃ W1, (((W.alloc (.cells #[.slice (some ⟨W.heap.size + 1 + 1, 0, none⟩) 1 cap] 63)).alloc (.cells #[.slice none 0 0, .slice none 0 0] 65)).alloc (.cells cs0 65)).drew = W1 := ⟨_, rfl⟩
  have hbW1 : Below W.heap.size W W1 := by rw [← hW1]; exact below_drew (below_alloc (below_alloc (below_alloc (Below.refl _ _) _) _) _)
  have hszW1 : W1.heap.size = W.heap.size + 3 := by rw [← hW1]; simp
  have hx5 : W1.heap[W.heap.size]? = some (.cells #[.slice (some ⟨W.heap.size + 1 + 1, 0, none⟩) 1 cap] 63 (0, 0)) := by rw [← hW1]; exact blk_drew (blk_alloc (blk_alloc (blk_new _ _) _) _)
  have hxg : W1.heap[W.heap.size + 1 + 1]? = some (.cells cs0 65 (0, 0)) := by
    have := blk_new ((W.alloc (.cells #[.slice (some ⟨W.heap.size + 1 + 1, 0, none⟩) 1 cap] 63)).alloc (.cells #[.slice none 0 0, .slice none 0 0] 65)) (.cells cs0 65)
    rw [World.size_alloc, World.size_alloc] at this
    rw [← hW1]; exact blk_drew this
  have k0 : cs0[0]? = some (.slice none 0 0) := by rw [← hcs0, Array.getElem?_append_left (by simp)]; rfl
  have k1 : cs0[1]? = some (.slice none 0 0) := by rw [← hcs0, Array.getElem?_append_left (by simp)]; rfl
  have d2 : W1.cell? ⟨b2, 0, none⟩ = some (.func (.func gR) #[] lbR) := pw_cell_below (hW.trans (hbW1.mono hzw)) h2
  gi_wp2
  clear hW1 hcs0 hcap d1
  refine wpIn_range (gf := gR) (lb := lbR) rfl egR hsR (hW.trans (hbW1.mono hzw)) (fun A N x vs h => by obtain ⟨Ad, c, rfl, _⟩ := hrR _ _ _ _ h; rfl) hkR
    (GrpI W cap) (fun _ _ _ _ => False) (fun pre M A B h hk => h.kept (fun i h => by omega) hk) (fun _ _ _ _ _ h _ => h)
    (fun i => i = W.heap.size ∨ i = W.heap.size + 1 + 1) ?hM ?h0 (fun x vs a₁ M A => ∃ v, vs = #[v] ∧ a₁ = { tmps := #[.func (.yield l) #[] #[], .pointer (some ⟨b1, 0, none⟩), .pointer (some ⟨b2, 0, none⟩), .pointer (some ⟨b3, 0, none⟩), undef, .pointer (some ⟨W.heap.size, 0, none⟩), v, undef, undef, undef, undef, undef, undef, undef, undef, .slice none 0 0, .int .i64 0, .bool true, .slice none 0 0, .agg #[.slice none 0 0, .slice none 0 0], .slice (some ⟨W.heap.size + 1, 0, none⟩) 1 1, .slice (some ⟨W.heap.size + 1 + 1, 0, none⟩) 1 cap, .func (.func gR) #[] lbR, v] ++ Array.replicate 57 undef, defers := [] })
    (fun _ _ _ _ _ _ h _ => h) ?assign ?body ?done ?stop
  case hM => intro i hi; omega
  case h0 => exact ⟨.inl rfl, .inr rfl, hx5, ⟨cs0, _, hxg, k0, k1, Kd.S_nil _ _ _ _ _⟩, fun i hi => by omega, hbW1⟩
  case stop =>
    intro D c pre W M' hpre h
    exact h.elim
  case assign =>
    intro l2 pre x vs N A M hI hpre hrd hM hN
    obtain ⟨Ad, c, rfl, hle, hC⟩ := hrR _ _ _ _ hrd
    gi_wp2
    refine ⟨M, fun i hi => ⟨.inl hi, (hM i hi).2⟩, Kpt.refl _ _, hI, _, rfl, ?_⟩
    simp only [List.size_toArray, List.length_cons, List.length_nil, Nat.reduceAdd, Nat.reduceSub, Array.replicate_succ, Array.replicate_zero, List.push_toArray, List.append_toArray, List.nil_append, List.cons_append]
  case body =>
    intro l2 pre x vs N A M a₁ hI hpre hrd hax hM hN
    obtain ⟨v, rfl, rfl⟩ := hax
    simp only [List.size_toArray, List.length_cons, List.length_nil, Nat.reduceAdd, Nat.reduceSub, Array.replicate_succ, Array.replicate_zero, List.push_toArray, List.append_toArray, List.nil_append, List.cons_append]
    have hpl : pre = [] ∧ x = row := by
      obtain ⟨t, ht⟩ := hpre
      cases pre with
      | nil => simp at ht; exact ⟨rfl, ht.1⟩
      | cons a b => simp at ht
    obtain ⟨rfl, rfl⟩ := hpl
    obtain ⟨hMB, hMG, hbx, ⟨cs, rv, hbg, c0, c1, hS⟩, hMW, hBW⟩ := hI
    obtain ⟨Ad, c, hvv, hle, hC⟩ := hrR _ _ _ _ hrd
    obtain rfl : v = .slice Ad x.length c := by simpa using hvv
    clear hvv
    obtain ⟨RA, rc, rfl⟩ := Kd.S_slice hS
    have d1 : A.cell? ⟨b1, 0, none⟩ = some (.slice none 0 0) := pw_cell_below (hW.trans (hBW.mono hzw)) h1
    have hzA : W.heap.size + 1 + 1 < A.heap.size := blk_lt hbg
    gi_wp2
    refine ⟨trivial, rfl, calls_in _ _ ((exec_picked.calls 1 Ad c x none 0 [] [] A hC hle (by simp [Kd.C, ReadsRow]) (by simp) (by simp [exec_picked.f, exec_picked.l0])).mono ?_)⟩
    rintro e W2 ⟨vk, rfl, hk, hb2⟩
    obtain ⟨KB, kc, rfl, hkle, hkC⟩ := Kd.R_reads hk
    simp only [List.length_nil] at hkC hkle ⊢
    have hbx2 := blk_below hbx hb2
    have hbg2 := blk_below hbg hb2
    have e5 : W2.cell? ⟨W.heap.size, 0, none⟩ = some (.slice (some ⟨W.heap.size + 1 + 1, 0, none⟩) 1 cap) := blk_cell hbx2 0
    have g0 : W2.cell? ⟨W.heap.size + 1 + 1, 0, none⟩ = some (.slice none 0 0) := (blk_cell hbg2 0).trans c0
    have g1 : W2.cell? ⟨W.heap.size + 1 + 1, 1, none⟩ = some (.slice RA 0 rc) := (blk_cell hbg2 1).trans c1
    gi_wp2
    refine ⟨trivial, rfl, calls_in _ _ ((search_one (W.heap.size + 1 + 1) cap RA 0 rc KB kc W2 g0 g1 hkC).mono ?_)⟩
    rintro e W3 ⟨rfl, hb3⟩
    have hb3A : Below A.heap.size A W3 := hb2.trans (hb3.mono hb2.size)
    have hbx3 := blk_below hbx hb3A
    have hbg3 := blk_below hbg hb3A
    gi_wp2
    have S0 : ∀ V : World, Below A.heap.size A V → V.cell? ⟨W.heap.size, 0, none⟩ = some (.slice (some ⟨W.heap.size + 1 + 1, 0, none⟩) 1 cap) ∧ V.cell? ⟨W.heap.size + 1 + 1, 1, none⟩ = some (.slice RA 0 rc) ∧ V.frozen? ⟨W.heap.size + 1 + 1, 1, none⟩ = false :=
      fun V hV => ⟨blk_cell (blk_below hbx hV) 0, (blk_cell (blk_below hbg hV) 1).trans c1, blk_frozen (blk_below hbg hV) 1⟩
    refine wpIn_region_R 13 (S := fun V => V.cell? ⟨W.heap.size, 0, none⟩ = some (.slice (some ⟨W.heap.size + 1 + 1, 0, none⟩) 1 cap) ∧ V.cell? ⟨W.heap.size + 1 + 1, 1, none⟩ = some (.slice RA 0 rc) ∧ V.frozen? ⟨W.heap.size + 1 + 1, 1, none⟩ = false) (by kernel_rfl) (S0 _ (hb3A.trans ((below_drew (Below.refl _ _)).mono hb3A.size))) (fun hS0 => ?_)
    refine wpAnyR_take (i := 0) (oi := ⟨some 41, _, _, _, _, _⟩) (v := ?_) (by kernel_rfl) (by kernel_rfl) rfl (by kernel_rfl) (by kernel_rfl) (by kernel_rfl) (fun _ _ _ h => h) (Or.inl ⟨by rfl, ?_⟩) (by assumption) ?_
    rotate_left
    · intro w hSw; (try dsimp only at hSw); (try go_split_ands); go_simp; (try (with_reducible rfl))
    (try simp only [Act.put, List.setIfInBounds_toArray, List.set_cons_zero, List.set_cons_succ])
    refine wpAnyR_take (i := 1) (oi := ⟨some 42, _, _, _, _, _⟩) (v := ?_) (by kernel_rfl) (by kernel_rfl) rfl (by kernel_rfl) (by kernel_rfl) (by kernel_rfl) (fun _ _ _ h => h) (Or.inl ⟨by rfl, ?_⟩) (by assumption) ?_
    rotate_left
    · intro w hSw; (try dsimp only at hSw); (try go_split_ands); go_simp; (try (with_reducible rfl))
    (try simp only [Act.put, List.setIfInBounds_toArray, List.set_cons_zero, List.set_cons_succ])
    refine wpAnyR_take (i := 2) (oi := ⟨some 43, _, _, _, _, _⟩) (v := ?_) (by kernel_rfl) (by kernel_rfl) rfl (by kernel_rfl) (by kernel_rfl) (by kernel_rfl) (fun _ _ _ h => h) (Or.inl ⟨by rfl, ?_⟩) (by assumption) ?_
    rotate_left
    · intro w hSw; (try dsimp only at hSw); (try go_split_ands); go_simp; (try (with_reducible rfl))
    (try simp only [Act.put, List.setIfInBounds_toArray, List.set_cons_zero, List.set_cons_succ])
    refine wpAnyR_take (i := 3) (oi := ⟨some 44, _, _, _, _, _⟩) (v := ?_) (by kernel_rfl) (by kernel_rfl) rfl (by kernel_rfl) (by kernel_rfl) (by kernel_rfl) (fun _ _ _ h => h) (Or.inl ⟨by rfl, ?_⟩) (by assumption) ?_
    rotate_left
    · intro w hSw; (try dsimp only at hSw); (try go_split_ands); go_simp; (try (with_reducible rfl))
    (try simp only [Act.put, List.setIfInBounds_toArray, List.set_cons_zero, List.set_cons_succ])
    refine wpAnyR_take (i := 4) (oi := ⟨some 45, _, _, _, _, _⟩) (v := ?_) (by kernel_rfl) (by kernel_rfl) rfl (by kernel_rfl) (by kernel_rfl) (by kernel_rfl) (fun _ _ _ h => h) (Or.inl ⟨by rfl, ?_⟩) (by assumption) ?_
    rotate_left
    · intro w hSw; (try dsimp only at hSw); (try go_split_ands); go_simp; (try (with_reducible rfl))
    (try simp only [Act.put, List.setIfInBounds_toArray, List.set_cons_zero, List.set_cons_succ])
    refine wpAnyR_take (i := 5) (oi := ⟨some 46, _, _, _, _, _⟩) (v := ?_) (by kernel_rfl) (by kernel_rfl) rfl (by kernel_rfl) (by kernel_rfl) (by kernel_rfl) (fun _ _ _ h => h) (Or.inl ⟨by rfl, ?_⟩) (by assumption) ?_
    rotate_left
    · intro w hSw; (try dsimp only at hSw); (try go_split_ands); go_simp; (try (with_reducible rfl))
    (try simp only [Act.put, List.setIfInBounds_toArray, List.set_cons_zero, List.set_cons_succ])
    refine wpAnyR_take (i := 6) (oi := ⟨some 47, _, _, _, _, _⟩) (v := ?_) (by kernel_rfl) (by kernel_rfl) rfl (by kernel_rfl) (by kernel_rfl) (by kernel_rfl) (fun _ _ _ h => h) (Or.inl ⟨by rfl, ?_⟩) (by assumption) ?_
    rotate_left
    · intro w hSw; (try dsimp only at hSw); (try go_split_ands); go_simp; (try (with_reducible rfl))
    (try simp only [Act.put, List.setIfInBounds_toArray, List.set_cons_zero, List.set_cons_succ])
    refine wpAnyR_take (i := 7) (oi := ⟨some 48, _, _, _, _, _⟩) (v := ?_) (by kernel_rfl) (by kernel_rfl) rfl (by kernel_rfl) (by kernel_rfl) (by kernel_rfl) (fun _ _ _ h => h) (Or.inl ⟨by rfl, ?_⟩) (by assumption) ?_
    rotate_left
    · intro w hSw; (try dsimp only at hSw); (try go_split_ands); go_simp; (try (with_reducible rfl))
    (try simp only [Act.put, List.setIfInBounds_toArray, List.set_cons_zero, List.set_cons_succ])
    refine wpAnyR_one (i := 8) (o := ⟨some 49, _, _, _, _, _⟩) (by kernel_rfl) (by kernel_rfl) rfl (fun K hK => ?_)
    go_simp
    refine (clone_any Ad x c W3.drew (Kd.C_below (Kd.C_below hC hb3A) (below_drew (Below.refl _ _))) hle (by omega)).mono ?_
    rintro e W4 ⟨v1, rfl, hR1, hb4⟩
    have hb4A : Below A.heap.size A W4 := hb3A.trans (((below_drew (Below.refl _ W3)).trans hb4).mono hb3A.size)
    (try dsimp only)
    refine hK.out _ _ (.inr (S0 _ hb4A)) ?_
    clear hK K
    (try simp only [Act.put, List.setIfInBounds_toArray, List.set_cons_zero, List.set_cons_succ])
    obtain ⟨A1, a1c, rfl, hle1, hC1⟩ := Kd.R_reads hR1
    refine wpAnyR_one (i := 9) (o := ⟨some 50, _, _, _, _, _⟩) (by kernel_rfl) (by kernel_rfl) rfl (fun K hK => ?_)
    go_simp
    refine hK.out _ _ (.inr (S0 _ (below_alloc hb4A _))) ?_
    clear hK K
    (try simp only [Act.put, List.setIfInBounds_toArray, List.set_cons_zero, List.set_cons_succ])
    refine wpAnyR_one (i := 10) (o := ⟨some 51, _, _, _, _, _⟩) (by kernel_rfl) (by kernel_rfl) rfl (fun K hK => ?_)
    have hzA4 : A.heap.size ≤ W4.heap.size := hb4A.size
    have hzA3 : A.heap.size ≤ W3.heap.size := hb3A.size
    refine Kd.S_append_step kRows (w0 := A) W.heap.size (by rfl) (.tmp 47) (.tmp 50) 22 31 _ 24 rfl Try.underlying22 infoRow rfl (by decide) (by decide) (.slice RA 0 rc) [] x [.slice A1 x.length a1c]
      (fun k => (M k ∧ k ≠ W.heap.size ∧ k ≠ W.heap.size + 1 + 1) ∨ A.heap.size ≤ k) (fun k => (Value.slice A1 x.length a1c).ownBlock = some k) rfl rfl ⟨_, rfl, RS_ok (Kd.R_lower hR1 (by show W.heap.size ≤ W3.heap.size; omega)) (fun _ h => h)⟩ ?_ (fun k hk => .inr (by omega)) ?_ (hb4A.mono (by omega)) (by omega) (by decide) ?_
    · intro k hk
      have := Kd.R_base hR1 k hk
      exact ⟨.inr (Nat.le_trans hzA3 this), fun e => by have h2 := Kd.S_lt hS k e.symm; exact absurd this (by show ¬ W3.heap.size ≤ k; omega)⟩
    · refine Kd.S_mono (Kd.S_below (Kd.S_bound hS) hb4A) (fun k hk => ⟨.inl hk.1, fun h => ?_⟩)
      have := Kd.R_base hR1 k h
      exact absurd this (by show ¬ W3.heap.size ≤ k; have := hk.2.2.1; omega)
    intro v2 W5 hS2 hB2 hg2 hat2
    obtain ⟨g2, cap2, rfl, hg2b, hg2l, cells2, hcells2⟩ := Kd.S_form hS2 (by simp)
    simp only [List.nil_append, List.length_cons, List.length_nil, Nat.zero_add] at hS2 ⊢
    have hbx5 := blk_grown (blk_below hbx hb4A) hg2 (Kd.S_away hS (fun k hk => hk.2.1))
    have hbg5 := blk_grown (blk_below hbg hb4A) hg2 (Kd.S_away hS (fun k hk => hk.2.2))
    refine hK.out _ _ (.inr ⟨blk_cell hbx5 0, (blk_cell hbg5 1).trans c1, blk_frozen hbg5 1⟩) ?_
    clear hK K
    (try simp only [Act.put, List.setIfInBounds_toArray, List.set_cons_zero, List.set_cons_succ])
    have hS05 : W5.cell? ⟨W.heap.size, 0, none⟩ = some (.slice (some ⟨W.heap.size + 1 + 1, 0, none⟩) 1 cap) ∧ W5.cell? ⟨W.heap.size + 1 + 1, 1, none⟩ = some (.slice RA 0 rc) ∧ W5.frozen? ⟨W.heap.size + 1 + 1, 1, none⟩ = false := ⟨blk_cell hbx5 0, (blk_cell hbg5 1).trans c1, blk_frozen hbg5 1⟩
    refine wpAnyR_one (i := 11) (o := ⟨some 52, _, _, _, _, _⟩) (by kernel_rfl) (by kernel_rfl) rfl (fun K hK => ?_)
    go_simp
    refine hK.out _ _ (.inr hS05) ?_
    clear hK K
    (try simp only [Act.put, List.setIfInBounds_toArray, List.set_cons_zero, List.set_cons_succ])
    refine wpAnyR_one (i := 12) (o := ⟨some 53, _, _, _, _, _⟩) (by kernel_rfl) (by kernel_rfl) rfl (fun K hK => ?_)
    go_simp
    refine hK.out _ _ (.inr hS05) ?_
    clear hK K
    (try simp only [Act.put, List.setIfInBounds_toArray, List.set_cons_zero, List.set_cons_succ])
    have hcg : W5.cell? ⟨W.heap.size + 1 + 1, 1, none⟩ = some (.slice RA 0 rc) := hS05.2.1
    have hfg : W5.frozen? ⟨W.heap.size + 1 + 1, 1, none⟩ = false := hS05.2.2
    refine wpAnyR_one (i := 13) (o := ⟨none, _, _, _, _, _⟩) (by kernel_rfl) (by kernel_rfl) rfl (fun K hK => ?_)
    go_simp
    refine hK.out _ _ (.inl rfl) ?_
    clear hK K
    (try simp only [Act.put, List.setIfInBounds_toArray, List.set_cons_zero, List.set_cons_succ])
    refine wpAnyR_done (by kernel_rfl) ?_ _
    gi_wp2
    have hzA5 : W4.heap.size ≤ W5.heap.size := hg2.size
    obtain ⟨W6, hW6⟩ : ∃ W6, W5.setCell ⟨W.heap.size + 1 + 1, 1, none⟩ (.slice (some ⟨g2, 0, none⟩) 1 cap2) = W6 := ⟨_, rfl⟩
    rw [hW6]
    have hk6 : Kpt (fun i => i = W.heap.size + 1 + 1) W5 W6 := by rw [← hW6]; exact Kpt.setCell W5 ⟨W.heap.size + 1 + 1, 1, none⟩ _
    have hbx6 := hk6.at hbx5 (by omega)
    have hbg6 : W6.heap[W.heap.size + 1 + 1]? = some (.cells (cs.setIfInBounds 1 (.slice (some ⟨g2, 0, none⟩) 1 cap2)) 65 (0, 0)) := by rw [← hW6]; exact blk_set hbg5 1 _
    have hS6 : Kd.S kRows tRow W6 W.heap.size (fun k => ((M k ∧ k ≠ W.heap.size ∧ k ≠ W.heap.size + 1 + 1) ∨ A.heap.size ≤ k) ∧ k < W6.heap.size) (.slice (some ⟨g2, 0, none⟩) 1 cap2) [x] := by
      have h3 : Kd.S kRows tRow W6 W.heap.size (fun k => (M k ∧ k ≠ W.heap.size ∧ k ≠ W.heap.size + 1 + 1) ∨ A.heap.size ≤ k) (.slice (some ⟨g2, 0, none⟩) 1 cap2) [x] := by
        rw [← hW6]
        exact Kd.S_far (p := ⟨W.heap.size + 1 + 1, 1, none⟩) hS2 (fun k hk => by rcases hk with hk | hk; exact hk.2.2; show k ≠ W.heap.size + 1 + 1; omega) _
      exact Kd.S_mono (Kd.S_bound h3) (fun k hk => ⟨hk.1, hk.2.2.1⟩)
    have hKA6 : Kpt M A W6 := by
      refine ((Kpt.of_new M hb4A).trans (Kpt.grown hg2) (M := M) (fun i hi h => ?_)).trans hk6 (fun i hi h => ?_)
      · rcases h with h | h
        · exact h
        · exact ((Kd.S_R hS).1 i h.symm).1
      · rcases h with h | h
        · exact h
        · rw [h]; exact hMG
    have hz6 := hKA6.size
    have hcs1 : 1 < cs.size := by
      rcases Nat.lt_or_ge 1 cs.size with h | h
      · exact h
      · rw [Array.getElem?_eq_none h] at c1; cases c1
    refine ⟨fun i => (M i ∨ A.heap.size ≤ i) ∧ i < W6.heap.size, fun i hi => ⟨by rcases hi.1 with h | h; exact .inl h; exact .inr (.inr h), hi.2⟩, hKA6.mono (fun _ _ h => .inl h), ⟨.inl hMB, by omega⟩, ⟨.inl hMG, by omega⟩, hbx6, ⟨cs.setIfInBounds 1 (.slice (some ⟨g2, 0, none⟩) 1 cap2), .slice (some ⟨g2, 0, none⟩) 1 cap2, hbg6, ?_, ?_, ?_⟩, fun i hi => by rcases hi.1 with h | h; exact hMW i h; omega, hBW.trans (hKA6.below hBW.size (fun i _ h => hMW i h))⟩
    · rw [Array.getElem?_setIfInBounds_ne (by omega)]; exact c0
    · rw [Array.getElem?_setIfInBounds_self_of_lt hcs1]
    · refine Kd.S_mono hS6 (fun k hk' => ?_)
      have hlt' := hk'.2
      rcases hk'.1 with h | h
      · exact ⟨⟨.inl h.1, by omega⟩, h.2.1, h.2.2⟩
      · exact ⟨⟨.inr h, by omega⟩, by omega, by omega⟩
  case done =>
    intro D W2 M' hI hk hM' hD hDw hDM
    obtain ⟨hMB, hMG, hbx, ⟨cs, rv, hbg, c0, c1, hS⟩, hMW, hBW⟩ := hI
    obtain ⟨RA, rc, rfl⟩ := Kd.S_slice hS
    simp only [List.length_cons, List.length_nil, Nat.zero_add] at c1 hS
    have hr := (Kd.S_reads' hS).2.2
    have e5 : W2.cell? ⟨W.heap.size, 0, none⟩ = some (.slice (some ⟨W.heap.size + 1 + 1, 0, none⟩) 1 cap) := blk_cell hbx 0
    have hbwW2 : Below w.heap.size w W2 := hW.trans (hBW.mono hzw)
    have hMcW : ∀ i, Mc i → i < W.heap.size := fun i h => (hMc i h).2
    have hzW2 := hBW.size
    gi_wp2
    gi_loopw [56] (fun i wr => (i = .int .i64 0 ∧ wr = W2) ∨ (i = .int .i64 1 ∧ ∃ M9, J [one1] M9 wr ∧ (∀ i, M9 i → (Mc i ∨ W2.heap.size ≤ i) ∧ i < wr.heap.size) ∧ Kpt Mc W2 wr)) (fun i _ => 1 - (intOf i).toNat)
    case atStart => exact .inl ⟨rfl, rfl⟩
    case round =>
      rcases hrel with ⟨rfl, hwr⟩ | ⟨rfl, M9, hJ9, hM9, hk9⟩
      · obtain rfl := hwr.symm
        have g0 : W2.cell? ⟨W.heap.size + 1 + 1, 0, none⟩ = some (.slice none 0 0) := (blk_cell hbg 0).trans c0
        have g1 : W2.cell? ⟨W.heap.size + 1 + 1, 1, none⟩ = some (.slice RA 1 rc) := (blk_cell hbg 1).trans c1
        gi_wp2
        refine ⟨trivial, rfl, callsIn_wide.2 ((clone_nil _).mono ?_)⟩
        rintro e W3 ⟨rfl, rfl⟩
        have hb3 : Below W2.heap.size W2 (W2.alloc (.cells #[.slice none 0 0, .slice RA 1 rc] 65)) := below_alloc (Below.refl _ _) _
        have d3 : (W2.alloc (.cells #[.slice none 0 0, .slice RA 1 rc] 65)).cell? ⟨b3, 0, none⟩ = some (.slice (some ⟨ga, 0, none⟩) 1 ca) := pw_cell_below (hbwW2.trans (hb3.mono hbwW2.size)) h3
        gi_wp2
        obtain ⟨W3, hW3⟩ : ∃ W3, W2.alloc (.cells #[.slice none 0 0, .slice RA 1 rc] 65) = W3 := ⟨_, rfl⟩
        rw [hW3] at d3 hb3 ⊢
        have hsz3 : W3.heap.size = W2.heap.size + 1 := by rw [← hW3]; simp
        have hx11 : W3.heap[W2.heap.size]? = some (.cells #[.slice none 0 0, .slice RA 1 rc] 65 (0, 0)) := by rw [← hW3]; exact blk_new _ _
        clear hW3
        have hbw3 : Below w.heap.size w W3 := hbwW2.trans (hb3.mono hbwW2.size)
        gi_loopw [12, 65] (fun out i V => (out = .slice none 0 0 ∧ i = .int .i64 0 ∧ V = W3) ∨ (i = .int .i64 1 ∧ kS.R tS V W3.heap.size (fun _ => True) out one1 ∧ Below W3.heap.size W3 V)) (fun _ i _ => 1 - (intOf i).toNat)
        case atStart => exact .inl ⟨rfl, rfl, rfl⟩
        case round =>
          rcases hrel with ⟨rfl, rfl, hwr⟩ | ⟨rfl, hRo, hBo⟩
          · obtain rfl := hwr.symm
            refine wpIn_wide.2 ?_
            have a0 := pw_cell_below hbw3 h4
            have a1 := pw_cell_below hbw3 h5
            have f0 := blk_cell (blk_alloc hx11 (.cells #[.int .i64 0, .int .i64 0] 48)) 0
            have f1 := blk_cell (blk_alloc hx11 (.cells #[.int .i64 0, .int .i64 0] 48)) 1
            go_wp2_with fail
            refine (told_count none 0 0 RA [row] rc 0 _ (Kd.C_alloc (Kd.C_below hr hb3) _) (by simp)).mono ?_
            rintro e W5 ⟨rfl, hb5⟩
            have hb5' : Below W3.heap.size W3 W5 := (below_alloc (Below.refl _ _) _).trans (hb5.mono (by simp))
            have h1l : (([row] : List Row).length : Int) = 1 := rfl
            rw [h1l]
            go_wp2_with (at_builtin; refine Kd.R_append kS (w0 := W3) W3.heap.size rfl (.tmp 69) (.tmp 73) 31 42 _ 40 rfl Try.underlying31 infoS rfl (by decide) (by decide) (.slice none 0 0) [] ⟨2, false, 1, ⟨#[]⟩⟩ [.int .i64 2, .bool false, .int .i64 1, .string ⟨#[]⟩] (fun _ => True) (fun _ => False) rfl rfl (k42_mkM _ _ _ _) (fun _ h => h.elim) (fun _ _ => trivial) (Kd.R_nil _ _ _ _ _) hb5' (by have := hb5'.size; omega) (by decide) ?_; intro v1 w1 hv1 hB1 hg1 hat1)
            go_roundw
            case rel => exact .inr ⟨by go_num, hv1, hB1⟩
            case measure => simp [intOf]
          · have hcl : [] ++ [one1] <+: [one1] := by simp
            have hbo2 : Below W2.heap.size W2 wr := hb3.trans (hBo.mono hb3.size)
            have hszo := hBo.size
            obtain ⟨fn, tmps, assign, body, hy, hR9⟩ := hY [] one1 #[u12] (fun i => W3.heap.size ≤ i ∧ i < wr.heap.size) wr Mc (hJ _ _ _ _ h0 (Kpt.of_new _ (hBW.trans (hbo2.mono hBW.size)))) hcl
              ⟨_, rfl, Kd.R_lower (Kd.R_mono (Kd.R_bound hRo) (fun i hi => ⟨hi.2.1, hi.2.2.1⟩)) (by have := hbwW2.size; omega), fun i hi => hi.2⟩
              (fun i hi => ⟨(hMc i hi).1, by have := hMcW i hi; omega⟩) (fun i hi => ⟨by omega, hi.2, fun h => by have := hMcW i h; omega⟩) (by omega)
            gi_wp2
            refine ⟨rfl, hR9.mono ?_⟩
            rintro e W9 ⟨M9, hM9, hk9, hor⟩
            have hMM : ∀ i, M9 i → (Mc i ∨ W2.heap.size ≤ i) ∧ i < W9.heap.size := fun i hi => ⟨by rcases (hM9 i hi).1 with h | h | h; exact .inl h; exact .inr (by omega); exact .inr (by omega), (hM9 i hi).2⟩
            have hKK : Kpt Mc W2 W9 := (Kpt.of_new Mc hbo2).trans hk9 (fun i hi h => by
              rcases h with h | h | h
              · exact h
              · exact h
              · omega)
            rcases hor with ⟨rfl, hJ9⟩ | ⟨rfl, hJ9⟩
            · gi_wp2
              go_roundw
              case rel => exact .inr ⟨by go_num, M9, hJ9, hMM, hKK⟩
              case measure => simp [intOf]
            · gi_wp2
              have hDW : W.heap.size ≤ D := by omega
              have hD2 : D < W2.heap.size := (Array.getElem?_eq_some_iff.1 hD).1
              have hDk : W9.heap[D]? = some (.deferred (some [])) := hKK.at hD (fun h => by have := hMcW D h; omega)
              refine ⟨by simp, .inl ⟨_, _, rfl, run_takeDeferred hDk, ?_⟩⟩
              obtain ⟨M4, h41, h42, h43⟩ := J2.ends (o := .deferred none) hJx hMcW hBW (⟨M9, hJ9, fun i => Iff.rfl, hMM, hKK⟩ : J2 Jx Mc W W2 [one1] (fun i => M9 i ∨ (W.heap.size ≤ i ∧ i < W2.heap.size)) W9) hDW (fun h => by omega)
              exact ⟨_, results_none rfl _ _ _, ⟨_, rfl⟩, M4, h41, h42, .inr ⟨_, hcl, h43⟩⟩
      · gi_wp2
        have hDW : W.heap.size ≤ D := by omega
        have hD2 : D < W2.heap.size := (Array.getElem?_eq_some_iff.1 hD).1
        have hDk : wr.heap[D]? = some (.deferred (some [])) := hk9.at hD (fun h => by have := hMcW D h; omega)
        refine ⟨by simp, .inl ⟨_, _, rfl, run_takeDeferred hDk, ?_⟩⟩
        obtain ⟨M4, h41, h42, h43⟩ := J2.ends (o := .deferred none) hJ hMcW hBW (⟨M9, hJ9, fun i => Iff.rfl, hM9, hk9⟩ : J2 J Mc W W2 [one1] (fun i => M9 i ∨ (W.heap.size ≤ i ∧ i < W2.heap.size)) wr) hDW (fun h => by omega)
        exact ⟨_, results_none rfl _ _ _, ⟨_, rfl⟩, M4, h41, h42, .inl h43⟩
end Go.Proofs.Ytghblnldokpceaa.QV
/- exec.Group where the rows are counted, as a function. -/
namespace Go.Proofs.Ytghblnldokpceaa.QV
open Go.RowKit Go.Proofs.YtghblnldokpceaaW.PrintWords Go.Proofs.Ytghblnldokpceaa.SeqW Go.Shelf Go.Proofs.Ytghblnldokpceaa.Op
set_option linter.unusedVariables false
set_option linter.unusedSimpArgs false
attribute [local go_sem] Oper.semAt_some

theorem clone_ints_nil (w : World) : Calls Try.prog 37 #[.slice none 0 0] w fun e w' => e = .returned (.slice none 0 0) ∧ w' = w := by
  have hn := Lib.run_eql_slice_nil (P := Try.prog)
  go_enter Try.func37, Try.ntmps37
  go_wp2
  go_ret
  exact ⟨rfl, rfl⟩
/-! the kind of api.Agg, as the print spells kinds -/
structure S48 where
  f0 : Int
  f1 : Int
def k48 : Kd S48 := Kd.iso (Kd.pair (Kd.int .i64) (Kd.int .i64)) (fun x : S48 => (x.f0, x.f1))
theorem k48_open {w : World} {x : S48} {cs : List Value} (h : k48.K w x cs) : cs = [.int .i64 x.f0, .int .i64 x.f1] := by
  obtain ⟨_, _, rfl, rfl, rfl⟩ := h
  exact rfl
theorem k48_mk (w : World) (x : S48)  : k48.K w x [.int .i64 x.f0, .int .i64 x.f1] := ⟨[.int .i64 x.f0], [.int .i64 x.f1], rfl, rfl, rfl⟩
theorem k48_mkM (w : World) (base : Nat) (ok : Nat → Prop) (x : S48)  : k48.M w base ok x [.int .i64 x.f0, .int .i64 x.f1] := ⟨[.int .i64 x.f0], [.int .i64 x.f1], rfl, rfl, rfl⟩
abbrev kA : Kd S48 := k48
theorem infoA : (Try.prog.info? 48).map (fun i => (i.zero, i.size, i.bytes)) = some (some (.agg #[.int .i64 0, .int .i64 0]), 2, 16) := by kernel_rfl
theorem kA_KM {w W : World} {base : Nat} {ok : Nat → Prop} (x : S48) (cs : List Value) (h : kA.K w x cs) : kA.M W base ok x cs := by
  rw [k48_open h]; exact k48_mkM _ _ _ _
set_option maxHeartbeats 1000000 in
theorem clone_aggs (ad : Addr) (l : List S48) (c : Nat) (w : World) (hr : kA.C w (some ad) l.length l) (hc : l.length ≤ c) (hb : l.length * 16 ≤ 140737488355328) :
    Calls Try.prog 38 #[.slice (some ad) l.length c] w fun e w' => ∃ v, e = .returned v ∧ kA.R 48 w' w.heap.size (fun _ => True) v l ∧ Below w.heap.size w w' := by
  have hmax := hr.2.1
  have hn := Lib.run_eql_slice_nil (P := Try.prog)
  go_enter Try.func38, Try.ntmps38
  go_wp2_with (at_builtin; refine Kd.R_append_rows kA (w0 := w) w.heap.size rfl (.tmp 5) (.tmp 6) 36 48 _ 16 rfl Try.underlying36 infoA rfl (by decide) (by decide) (.slice (some ⟨w.heap.size, 0, none⟩) 0 0) [] l (some ad) l.length c (fun _ => True) (fun _ => False) rfl rfl (R_empty' kA _ _ _ _ (Nat.le_refl _) trivial) (Kd.C_below hr (below_alloc (Below.refl _ _) _)) (fun x cs h => kA_KM x cs h) (fun _ h => h.elim) (fun _ _ => trivial) (below_alloc (Below.refl _ _) _) (by simp) (by simp; omega) ?_; intro v1 w4 hv1 hB7 hg7 hat7; clear hg7 hat7)
  go_ret
  exact ⟨v1, rfl, by simpa using hv1, hB7⟩

set_option maxHeartbeats 2000000 in
theorem group_is1 (row : Row) (sv : Value) (ga : Nat) (w : World) (hR : IsSeq w sv [row]) (hga : ga < w.heap.size) (ha : kA.C w (some ⟨ga, 0, none⟩) 1 [⟨0, 0⟩]) (hb : row.length ≤ 1048576) :
    Calls Try.prog 16 #[sv, .slice none 0 0, .slice (some ⟨ga, 0, none⟩) 1 1] w fun e w' => ∃ v, e = .returned v ∧ IsOwn w' v [one1] ∧ Below w.heap.size w w' := by
  obtain ⟨gR, lbR, RdR, rfl, qR⟩ := hR
  have hR : IsSeq w (.func (.func gR) #[] lbR) [row] := ⟨gR, lbR, RdR, rfl, qR⟩
  clear qR
  go_enter Try.func16, Try.ntmps16
  go_wp2_with fail
  obtain ⟨w1, hw1⟩ : ∃ w1, ((w.alloc (.cells #[.func (.func gR) #[] lbR] 28)).alloc (.cells #[.slice none 0 0] 35)).alloc (.cells #[.slice (some ⟨ga, 0, none⟩) 1 1] 36) = w1 := ⟨_, rfl⟩
  rw [hw1]
  have hb1 : Below w.heap.size w w1 := by rw [← hw1]; exact below_alloc (below_alloc (below_alloc (Below.refl _ _) _) _) _
  have g0 : w1.heap[w.heap.size]? = some (.cells #[.func (.func gR) #[] lbR] 28 (0, 0)) := by rw [← hw1]; exact blk_alloc (blk_alloc (blk_new _ _) _) _
  have g1 : w1.heap[w.heap.size + 1]? = some (.cells #[.slice none 0 0] 35 (0, 0)) := by
    have := blk_new (w.alloc (.cells #[.func (.func gR) #[] lbR] 28)) (.cells #[.slice none 0 0] 35)
    rw [World.size_alloc] at this
    rw [← hw1]; exact blk_alloc this _
  have g2 : w1.heap[w.heap.size + 1 + 1]? = some (.cells #[.slice (some ⟨ga, 0, none⟩) 1 1] 36 (0, 0)) := by
    have := blk_new ((w.alloc (.cells #[.func (.func gR) #[] lbR] 28)).alloc (.cells #[.slice none 0 0] 35)) (.cells #[.slice (some ⟨ga, 0, none⟩) 1 1] 36)
    rw [World.size_alloc, World.size_alloc] at this
    rw [← hw1]; exact this
  clear hw1
  have hz1 := blk_lt g2
  have S0 : ∀ V, Below w1.heap.size w1 V → V.cell? ⟨w.heap.size + 1, 0, none⟩ = some (.slice none 0 0) ∧ V.cell? ⟨w.heap.size + 1 + 1, 0, none⟩ = some (.slice (some ⟨ga, 0, none⟩) 1 1) ∧ V.frozen? ⟨w.heap.size + 1, 0, none⟩ = false ∧ V.frozen? ⟨w.heap.size + 1 + 1, 0, none⟩ = false :=
    fun V hV => ⟨blk_cell (blk_below g1 hV) 0, blk_cell (blk_below g2 hV) 0, blk_frozen (blk_below g1 hV) 0, blk_frozen (blk_below g2 hV) 0⟩
  refine (wpIn_wide (n := 0)).1 ?_
  refine wpIn_region_R (l := 0) 5 (S := fun V => V.cell? ⟨w.heap.size + 1, 0, none⟩ = some (.slice none 0 0) ∧ V.cell? ⟨w.heap.size + 1 + 1, 0, none⟩ = some (.slice (some ⟨ga, 0, none⟩) 1 1) ∧ V.frozen? ⟨w.heap.size + 1, 0, none⟩ = false ∧ V.frozen? ⟨w.heap.size + 1 + 1, 0, none⟩ = false) (by kernel_rfl) (S0 _ (below_drew (Below.refl _ _))) (fun hS0 => ?_)
  refine wpAnyR_take (i := 0) (oi := ⟨some 7, _, _, _, _, _⟩) (v := ?_) (by kernel_rfl) (by kernel_rfl) rfl (by kernel_rfl) (by kernel_rfl) (by kernel_rfl) (fun _ _ _ h => h) (Or.inl ⟨by rfl, ?_⟩) (by assumption) ?_
  rotate_left
  · intro w hSw; (try dsimp only at hSw); (try go_split_ands); go_simp; (try (with_reducible rfl))
  (try simp only [Act.put, List.setIfInBounds_toArray, List.set_cons_zero, List.set_cons_succ])
  refine wpAnyR_take (i := 2) (oi := ⟨some 9, _, _, _, _, _⟩) (v := ?_) (by kernel_rfl) (by kernel_rfl) rfl (by kernel_rfl) (by kernel_rfl) (by kernel_rfl) (fun _ _ _ h => h) (Or.inl ⟨by rfl, ?_⟩) (by assumption) ?_
  rotate_left
  · intro w hSw; (try dsimp only at hSw); (try go_split_ands); go_simp; (try (with_reducible rfl))
  (try simp only [Act.put, List.setIfInBounds_toArray, List.set_cons_zero, List.set_cons_succ])
  refine wpAnyR_one (i := 1) (o := ⟨some 8, _, _, _, _, _⟩) (by kernel_rfl) (by kernel_rfl) rfl (fun K hK => ?_)
  go_simp
  refine (clone_ints_nil _).mono ?_
  rintro e w2 ⟨rfl, rfl⟩
  (try dsimp only)
  refine hK.out _ _ (.inr (S0 _ (below_drew (Below.refl _ _)))) ?_
  clear hK K
  (try simp only [Act.put, List.setIfInBounds_toArray, List.set_cons_zero, List.set_cons_succ])
  refine wpAnyR_one (i := 3) (o := ⟨some 10, _, _, _, _, _⟩) (by kernel_rfl) (by kernel_rfl) rfl (fun K hK => ?_)
  go_simp
  refine (clone_aggs ⟨ga, 0, none⟩ [⟨0, 0⟩] 1 _ (Kd.C_drew (Kd.C_below ha hb1)) (by simp) (by simp)).mono ?_
  rintro e w2 ⟨v2, rfl, hR2, hb2⟩
  have hb2' : Below w1.heap.size w1 w2 := (below_drew (Below.refl _ w1)).trans hb2
  (try dsimp only)
  refine hK.out _ _ (.inr (S0 _ hb2')) ?_
  clear hK K
  (try simp only [Act.put, List.setIfInBounds_toArray, List.set_cons_zero, List.set_cons_succ])
  obtain ⟨A3, c3', hv3, hle3, hC3⟩ := Kd.R_reads hR2
  obtain ⟨g3, c3, rfl, hg3b, hg3l, cells3, hcells3⟩ := Kd.R_form hR2 (by simp)
  have hg3b' : w1.heap.size ≤ g3 := hg3b
  injection hv3 with hA3
  subst hA3
  obtain ⟨ad3, cs3, hA3, _, hK3, hcs3⟩ := Kd.C_get hC3 ⟨0, 0⟩ 0 (by omega) (by simp)
  injection hA3 with hA3
  subst hA3
  have hop := k48_open hK3
  have e30 : w2.cell? ⟨g3, 0, none⟩ = some (.int .i64 0) := hcs3 0 _ (by rw [hop]; rfl)
  have e31 : w2.cell? ⟨g3, 1, none⟩ = some (.int .i64 0) := hcs3 1 _ (by rw [hop]; rfl)
  have hS2 := S0 _ hb2'
  obtain ⟨q1, q2, q3, q4⟩ := hS2
  refine wpAnyR_one (i := 4) (o := ⟨none, _, _, _, _, _⟩) (by kernel_rfl) (by kernel_rfl) rfl (fun K hK => ?_)
  go_simp
  obtain ⟨w3, hw3⟩ : ∃ w3, w2.setCell ⟨w.heap.size + 1, 0, none⟩ (.slice none 0 0) = w3 := ⟨_, rfl⟩
  rw [hw3]
  have hk3 : Seq.Kpt (fun i => i = w.heap.size + 1) w2 w3 := by rw [← hw3]; exact Seq.Kpt.setCell w2 ⟨w.heap.size + 1, 0, none⟩ _
  have g13 : w3.heap[w.heap.size + 1]? = some (.cells #[.slice none 0 0] 35 (0, 0)) := by rw [← hw3]; simpa using blk_set (blk_below g1 hb2') 0 (.slice none 0 0)
  have g23 : w3.heap[w.heap.size + 1 + 1]? = some (.cells #[.slice (some ⟨ga, 0, none⟩) 1 1] 36 (0, 0)) := hk3.at (blk_below g2 hb2') (by omega)
  clear hw3
  refine hK.out _ _ (.inr ⟨blk_cell g13 0, blk_cell g23 0, blk_frozen g13 0, blk_frozen g23 0⟩) ?_
  clear hK K
  (try simp only [Act.put, List.setIfInBounds_toArray, List.set_cons_zero, List.set_cons_succ])
  have t1 := blk_cell g23 0
  have t2 := blk_frozen g23 0
  refine wpAnyR_one (i := 5) (o := ⟨none, _, _, _, _, _⟩) (by kernel_rfl) (by kernel_rfl) rfl (fun K hK => ?_)
  go_simp
  refine hK.out _ _ (.inl rfl) ?_
  clear hK K
  (try simp only [Act.put, List.setIfInBounds_toArray, List.set_cons_zero, List.set_cons_succ])
  refine wpAnyR_done (by kernel_rfl) ?_ _
  go_wp2
  go_ret
  obtain ⟨w4, hw4⟩ : ∃ w4, w3.setCell ⟨w.heap.size + 1 + 1, 0, none⟩ (.slice (some ⟨g3, 0, none⟩) 1 c3') = w4 := ⟨_, rfl⟩
  rw [hw4]
  have hk4 : Seq.Kpt (fun i => i = w.heap.size + 1 + 1) w3 w4 := by rw [← hw4]; exact Seq.Kpt.setCell w3 ⟨w.heap.size + 1 + 1, 0, none⟩ _
  have g24 : w4.heap[w.heap.size + 1 + 1]? = some (.cells #[.slice (some ⟨g3, 0, none⟩) 1 c3'] 36 (0, 0)) := by rw [← hw4]; simpa using blk_set g23 0 (.slice (some ⟨g3, 0, none⟩) 1 c3')
  have g14 := hk4.at g13 (by omega)
  have g04 := hk4.at (hk3.at (blk_below g0 hb2') (by omega)) (by omega)
  have hg3 := hk4.at (hk3.at hcells3 (by omega)) (by omega)
  have hB4 : Below w.heap.size w w4 := (hb1.trans (hb2'.mono hb1.size)).trans ((hk3.trans hk4 (M := fun i => i = w.heap.size + 1 ∨ i = w.heap.size + 1 + 1) (fun _ _ h => h)).below (by have := hb2'.size; omega) (fun i _ h => by omega))
  refine ⟨_, rfl, ⟨_, _, rfl, fun args w => rfl, group_seq1 row _ _ _ _ g3 c3' w4 (hR.later hB4) (blk_cell g14 0) (blk_cell g04 0) (blk_cell g24 0) ?_ ?_ hb⟩, hB4⟩
  · rw [blk_cell hg3 0, ← blk_cell hcells3 0]; exact e30
  · rw [blk_cell hg3 1, ← blk_cell hcells3 1]; exact e31
end Go.Proofs.Ytghblnldokpceaa.QV
/- hayloftlaw15.alive. -/
namespace Go.Proofs.Ytghblnldokpceaa.QV
open Go.RowKit Go.Proofs.YtghblnldokpceaaW.PrintWords Go.Proofs.Ytghblnldokpceaa.Seq Go.Shelf Go.Proofs.Ytghblnldokpceaa.Op
set_option linter.unusedVariables false
set_option linter.unusedSimpArgs false

theorem C_one {α : Type} (d : Kd α) (w : World) (g : Nat) (x : α) (cs : List Value) (hK : d.K w x cs) (hc : ∀ i u, cs[i]? = some u → w.cell? ⟨g, i, none⟩ = some u) : d.C w (some ⟨g, 0, none⟩) 1 [x] := by
  refine ⟨rfl, by decide, fun _ => ⟨_, rfl, fun j p hj => ?_⟩⟩
  match j with
  | 0 =>
    simp at hj
    subst hj
    exact ⟨cs, d.K_len hK, hK, fun i u hu => by
      have := hc i u hu
      by_cases h0 : i = 0
      · subst h0; simpa [Addr.add] using this
      · simpa [Addr.add, h0] using this⟩
  | j + 1 => simp at hj
theorem IsSeq.form {w : World} {sv : Value} {xs : List Row} (h : IsSeq w sv xs) : ∃ g lb, sv = .func (.func g) #[] lb := by
  obtain ⟨g, lb, _, h, _⟩ := h
  exact ⟨g, lb, h⟩
def row2 : Row := [⟨2, false, 2, ⟨#[]⟩⟩]
theorem join_row2 : joinL [row2] [row2] 0 0 = [row2 ++ row2] := by
  have h : cmpV (toV ⟨2, false, 2, ⟨#[]⟩⟩) (toV ⟨2, false, 2, ⟨#[]⟩⟩) = 0 := cmpV_self _
  simp [joinL, joinOne, nzB, hitB, atS, row2, h]
/-- What an iterator whose rows are its consumer's own gives, gathered. -/
theorem all_is (sv : Value) (xs : List Row) (w0 w : World) (h : IsOwn w0 sv xs) (hb0 : Below w0.heap.size w0 w) (hx : ∀ x ∈ xs, x.length * 40 ≤ 140737488351232) (hn : xs.length * 24 ≤ 140737488351232) :
    Calls Try.prog 18 #[sv] w fun e w' => ∃ v, e = .returned v ∧ Kd.S kRows tRow w' w.heap.size (fun _ => True) v xs ∧ Below w.heap.size w w' := by
  obtain ⟨g, lb, rfl, eg, hs⟩ := h
  exact all_any g lb xs w0 w eg hs hb0 hx hn

set_option maxRecDepth 100000 in
set_option maxHeartbeats 4000000 in
theorem aliveX_any (w : World) : Calls Try.prog 9 #[] w fun e w' => e = .returned (.bool true) ∧ Below w.heap.size w w' := by
  obtain ⟨kc, hkc⟩ := copied_f [row2] (by simp) (by simp [row2])
  have hj2 := join_row2
  go_enter Try.func9, Try.ntmps9
  go_wp2_with fail
  obtain ⟨w1, hw1⟩ : ∃ w1, (w.alloc (.cells #[.int .i64 2, .bool false, .int .i64 2, .string ⟨#[]⟩] 42)).alloc (.cells #[.slice (some ⟨w.heap.size, 0, none⟩) 1 1] 31) = w1 := ⟨_, rfl⟩
  rw [hw1]
  have hb1 : Below w.heap.size w w1 := by rw [← hw1]; exact below_alloc (below_alloc (Below.refl _ _) _) _
  have g0 : w1.heap[w.heap.size]? = some (.cells #[.int .i64 2, .bool false, .int .i64 2, .string ⟨#[]⟩] 42 (0, 0)) := by rw [← hw1]; exact blk_alloc (blk_new _ _) _
  have g1 : w1.heap[w.heap.size + 1]? = some (.cells #[.slice (some ⟨w.heap.size, 0, none⟩) 1 1] 31 (0, 0)) := by
    have := blk_new (w.alloc (.cells #[.int .i64 2, .bool false, .int .i64 2, .string ⟨#[]⟩] 42)) (.cells #[.slice (some ⟨w.heap.size, 0, none⟩) 1 1] 31)
    rw [World.size_alloc] at this
    rw [← hw1]; exact this
  clear hw1
  have hr0 : kS.C w1 (some ⟨w.heap.size, 0, none⟩) 1 row2 := C_one kS w1 w.heap.size _ _ (k42_mk w1 ⟨2, false, 2, ⟨#[]⟩⟩) (fun i u hu => by rw [blk_cell g0 i]; simpa using hu)
  have hr1 : kRows.C w1 (some ⟨w.heap.size + 1, 0, none⟩) [row2].length [row2] := C_one kRows w1 (w.heap.size + 1) row2 [.slice (some ⟨w.heap.size, 0, none⟩) row2.length 1] ⟨_, _, rfl, by simp [row2], hr0⟩ (fun i u hu => by rw [blk_cell g1 i]; simpa [row2] using hu)
  -- exec.Join
  refine (values_is _ [row2] 1 w1 hr1).mono ?_
  rintro e w2 ⟨v2, rfl, hs2, hb2⟩
  obtain ⟨f2, l2, rfl⟩ := hs2.form
  have hB2 := hb1.trans (hb2.mono hb1.size)
  go_wp2_with fail
  refine (hayloftlaw15_copied.calls kc _ 1 [row2] [row2] w2 (Kd.C_below hr1 hb2) (by simp) hkc).mono ?_
  rintro e w3 ⟨v3, rfl, hS3, hb3⟩
  have hB3 := hB2.trans (hb3.mono hB2.size)
  obtain ⟨A3, c3, rfl, hle3, hC3⟩ := Kd.S_reads hS3
  go_wp2_with fail
  refine (values_is A3 [row2] c3 w3 hC3).mono ?_
  rintro e w4 ⟨v4, rfl, hs4, hb4⟩
  obtain ⟨f4, l4, rfl⟩ := hs4.form
  have hB4 := hB3.trans (hb4.mono hB3.size)
  go_wp2_with fail
  refine (join_is [row2] [row2] 0 0 _ _ w4 ((hs2.later hb3).later hb4) hs4 (by simp [row2]) (by simp [row2]) (by simp)).mono ?_
  rintro e w5 ⟨v5, rfl, hs5, hb5⟩
  rw [hj2] at hs5
  obtain ⟨f5, l5, rfl⟩ := hs5.seq.form
  have hB5 := hB4.trans (hb5.mono hB4.size)
  go_wp2_with fail
  refine (all_is _ [row2 ++ row2] w5 w5 hs5 (Below.refl _ _) (by simp [row2]) (by simp)).mono ?_
  rintro e w6 ⟨v6, rfl, hS6, hb6⟩
  have hB6 := hB5.trans (hb6.mono hB5.size)
  obtain ⟨A6, c6, rfl, hle6, hC6⟩ := Kd.S_reads hS6
  go_wp2_with fail
  -- exec.Group
  have hb16 : Below w1.heap.size w1 w6 := (((hb2.trans (hb3.mono hb2.size)).trans (hb4.mono (by have := hb2.size; have := hb3.size; omega))).trans (hb5.mono (by have := hb2.size; have := hb3.size; have := hb4.size; omega))).trans (hb6.mono (by have := hb2.size; have := hb3.size; have := hb4.size; have := hb5.size; omega))
  refine (hayloftlaw15_copied.calls kc _ 1 [row2] [row2] w6 (Kd.C_below hr1 hb16) (by simp) hkc).mono ?_
  rintro e w7 ⟨v7, rfl, hS7, hb7⟩
  have hB7 := hB6.trans (hb7.mono hB6.size)
  obtain ⟨A7, c7, rfl, hle7, hC7⟩ := Kd.S_reads hS7
  go_wp2_with fail
  refine (values_is A7 [row2] c7 w7 hC7).mono ?_
  rintro e w8 ⟨v8, rfl, hs8, hb8⟩
  obtain ⟨f8, l8, rfl⟩ := hs8.form
  have hB8 := hB7.trans (hb8.mono hB7.size)
  go_wp2_with fail
  obtain ⟨w9, hw9⟩ : ∃ w9, w8.alloc (.cells #[.int .i64 0, .int .i64 0] 48) = w9 := ⟨_, rfl⟩
  rw [hw9]
  have hb9 : Below w8.heap.size w8 w9 := by rw [← hw9]; exact below_alloc (Below.refl _ _) _
  have g9 : w9.heap[w8.heap.size]? = some (.cells #[.int .i64 0, .int .i64 0] 48 (0, 0)) := by rw [← hw9]; exact blk_new _ _
  clear hw9
  have hB9 := hB8.trans (hb9.mono hB8.size)
  refine (group_is1 row2 _ w8.heap.size w9 (hs8.later hb9) (blk_lt g9) (C_one kA w9 w8.heap.size ⟨0, 0⟩ _ (k48_mk w9 ⟨0, 0⟩) (fun i u hu => by rw [blk_cell g9 i]; simpa using hu)) (by simp [row2])).mono ?_
  rintro e w10 ⟨v10, rfl, hs10, hb10⟩
  obtain ⟨f10, l10, rfl⟩ := hs10.seq.form
  have hB10 := hB9.trans (hb10.mono hB9.size)
  go_wp2_with fail
  refine (all_is _ [one1] w10 w10 hs10 (Below.refl _ _) (by simp [one1]) (by simp)).mono ?_
  rintro e w11 ⟨v11, rfl, hS11, hb11⟩
  have hB11 := hB10.trans (hb11.mono hB10.size)
  obtain ⟨A11, c11, rfl, hle11, hC11⟩ := Kd.S_reads hS11
  have hb611 : Below w6.heap.size w6 w11 := ((((hb7.trans (hb8.mono hb7.size)).trans (hb9.mono (by have := hb7.size; have := hb8.size; omega))).trans (hb10.mono (by have := hb7.size; have := hb8.size; have := hb9.size; omega))).trans (hb11.mono (by have := hb7.size; have := hb8.size; have := hb9.size; have := hb10.size; omega)))
  obtain ⟨ad, cs, rfl, _, ⟨Ax, cx, rfl, hlex, hCx⟩, hcs⟩ := Kd.C_get (Kd.C_below hC6 hb611) [] 0 (by omega) (by simp)
  obtain ⟨am, cm, rfl, _, ⟨Ay, cy, rfl, hley, hCy⟩, hcm⟩ := Kd.C_get hC11 [] 0 (by omega) (by simp)
  obtain ⟨ay, cn, rfl, _, hKy, hcn⟩ := Kd.C_get hCy zV 0 (by omega) (by simp [one1])
  have hop := k42_open hKy
  have m0 := hcs 0 _ rfl
  have m1 := hcm 0 _ rfl
  have m2 := hcn 2 (.int .i64 1) (by rw [hop]; rfl)
  have z0 : ∀ a : Addr, a.add 0 = a := fun a => by cases a; simp [Addr.add]
  have m0' : w11.cell? ad = some (.slice Ax 2 cx) := by rw [← z0 ad]; exact m0
  have m1' : w11.cell? am = some (.slice (some ay) 1 cy) := by rw [← z0 am]; exact m1
  have m2' : w11.cell? ⟨ay.block, ay.off + 2, none⟩ = some (.int .i64 1) := by
    have := add_field ay 0 2 (by omega)
    rw [z0] at this
    rw [← this]; exact m2
  clear m0 m1 m2 hcs hcm hcn
  go_wp2_with fail
  go_ret
  exact ⟨rfl, hB11⟩
end Go.Proofs.Ytghblnldokpceaa.QV
/- The orders of values and of rows are total; what is alike, of right values, is the same. Plain Lean. -/
namespace Go.Proofs.Ytghblnldokpceaa.Op
set_option linter.unusedVariables false

theorem ba_ext {s t : ByteArray} (h : s.toList = t.toList) : s = t := by
  rw [Lib.toList_data, Lib.toList_data] at h
  cases s; cases t
  simpa using Array.toList_inj.1 h
theorem eqVB_iff {x y : V} : eqVB x y = true ↔ x = y := by
  unfold eqVB
  constructor
  · intro h
    simp only [Bool.and_eq_true, beq_iff_eq] at h
    exact V.ext h.1 h.2.1 h.2.2.1 (ba_ext h.2.2.2)
  · rintro rfl; simp
theorem right_cases {x : V} (h : rightV x = true) : x = ⟨0, false, 0, ⟨#[]⟩⟩ ∨ (∃ b, x = ⟨1, b, 0, ⟨#[]⟩⟩) ∨ (∃ i, x = ⟨2, false, i, ⟨#[]⟩⟩) ∨ (∃ s : ByteArray, s.size ≤ 64 ∧ x = ⟨3, false, 0, s⟩) := by
  unfold rightV at h
  split at h
  · exact .inl (eqVB_iff.1 h)
  · split at h
    · exact .inr (.inl ⟨_, eqVB_iff.1 h⟩)
    · split at h
      · exact .inr (.inr (.inl ⟨_, eqVB_iff.1 h⟩))
      · split at h
        · rw [Bool.and_eq_true] at h
          exact .inr (.inr (.inr ⟨_, by have := of_decide_eq_true h.2; omega, eqVB_iff.1 h.1⟩))
        · cases h
theorem cmpV_zero {x y : V} (hx : rightV x = true) (hy : rightV y = true) : cmpV x y = 0 ↔ x = y := by
  refine ⟨fun h => ?_, fun h => by rw [h]; exact cmpV_self y⟩
  have hk : x.k = y.k := by
    by_cases e : x.k = y.k
    · exact e
    · rw [cmpV_ne e, cmpI_zero] at h; exact h
  rcases right_cases hx with rfl | ⟨b, rfl⟩ | ⟨i, rfl⟩ | ⟨s, _, rfl⟩ <;> rcases right_cases hy with rfl | ⟨b', rfl⟩ | ⟨i', rfl⟩ | ⟨s', _, rfl⟩
  all_goals first | rfl | (exfalso; revert hk; simp; done) | skip
  · rw [cmpV_1 rfl rfl] at h
    revert h
    cases b <;> cases b' <;> simp
  · rw [cmpV_2 rfl rfl, cmpI_zero] at h
    simp only at h; rw [h]
  · rw [cmpV_3 rfl rfl, compareBytes_zero] at h
    have : s = s' := ba_ext (by rw [Lib.toList_data, Lib.toList_data]; exact h)
    rw [this]
theorem rowsV_swap : ∀ a b : List V, rowsV b a = -rowsV a b
  | [], [] => rfl
  | [], _ :: _ => rfl
  | _ :: _, [] => rfl
  | x :: xs, y :: ys => by
    rw [rowsV, rowsV, cmpV_swap]
    by_cases h : cmpV x y = 0
    · rw [if_pos h, if_pos (by omega), rowsV_swap]
    · rw [if_neg h, if_neg (by omega)]
theorem cmpV_zero_le {x y z : V} (h : cmpV x y = 0) : cmpV x z = cmpV y z := by
  have a1 := cmpV_trans x y z (by omega)
  have a2 := cmpV_trans y x z (by have := cmpV_swap x y; omega)
  have a3 := cmpV_trans z x y
  have a4 := cmpV_trans z y x
  have s1 := cmpV_swap x z
  have s2 := cmpV_swap y z
  have s3 := cmpV_swap x y
  have r1 := cmpV_range x z
  have r2 := cmpV_range y z
  omega
theorem cmpV_zero_ge {x y z : V} (h : cmpV x y = 0) : cmpV z x = cmpV z y := by
  rw [cmpV_swap x z, cmpV_swap y z, cmpV_zero_le h]
theorem rowsV_trans : ∀ a b c : List V, rowsV a b ≤ 0 → rowsV b c ≤ 0 → rowsV a c ≤ 0
  | [], _, [], _, _ => by rw [rowsV]; omega
  | [], _, _ :: _, _, _ => by rw [rowsV]; omega
  | _ :: _, [], _, h, _ => by rw [rowsV] at h; omega
  | _ :: _, _ :: _, [], _, h => by rw [rowsV] at h; omega
  | x :: xs, y :: ys, z :: zs, h1, h2 => by
    have ih := rowsV_trans xs ys zs
    rw [rowsV] at h1 h2 ⊢
    by_cases e1 : cmpV x y = 0
    · rw [if_pos e1] at h1
      rw [cmpV_zero_le e1]
      by_cases e2 : cmpV y z = 0
      · rw [if_pos e2] at h2 ⊢
        exact ih h1 h2
      · rw [if_neg e2] at h2 ⊢
        exact h2
    · rw [if_neg e1] at h1
      by_cases e2 : cmpV y z = 0
      · rw [if_neg (by rw [← cmpV_zero_ge e2]; exact e1), ← cmpV_zero_ge e2]
        exact h1
      · rw [if_neg e2] at h2
        have h3 := cmpV_trans x y z h1 h2
        split
        · rename_i h0
          exfalso
          have := cmpV_zero_le (z := y) h0
          have := cmpV_swap y z
          omega
        · exact h3
end Go.Proofs.Ytghblnldokpceaa.Op
/- ExecSorts: the walk. -/
namespace Go.Proofs.Ytghblnldokpceaa.QV
open Go.RowKit Go.Proofs.YtghblnldokpceaaW.PrintWords Go.Proofs.Ytghblnldokpceaa.SeqW Go.Shelf Go.Proofs.Ytghblnldokpceaa.Op Go.Proofs.Ytghblnldokpceaa.Stab
set_option linter.unusedVariables false
set_option linter.unusedSimpArgs false

theorem btr2 {a b c : World} (h : Below a.heap.size a b) (k : Below b.heap.size b c) : Below a.heap.size a c := h.trans (k.mono h.size)
theorem toV_inj {x y : S'} (h : toV x = toV y) : x = y := by
  obtain ⟨a, b, c, d⟩ := x
  obtain ⟨a', b', c', d'⟩ := y
  simpa [toV] using h
def allR (l : Row) : Bool := l.all fun x => rightV (toV x)
theorem rowsV_zero_eq : ∀ {a b : Row}, allR a = true → allR b = true → rowsV (a.map toV) (b.map toV) = 0 → a = b
  | [], [], _, _, _ => rfl
  | [], _ :: _, _, _, h => by simp [rowsV] at h
  | _ :: _, [], _, _, h => by simp [rowsV] at h
  | x :: xs, y :: ys, ha, hb, h => by
    simp only [allR, List.all_cons, Bool.and_eq_true] at ha hb
    rw [List.map_cons, List.map_cons, rowsV] at h
    by_cases hc : cmpV (toV x) (toV y) = 0
    · rw [if_pos hc] at h
      rw [toV_inj ((cmpV_zero ha.1 hb.1).1 hc), rowsV_zero_eq ha.2 hb.2 h]
    · rw [if_neg hc] at h; exact absurd h hc
theorem ordS_zero_eq {a b : Row} (ha : allR a = true) (hb : allR b = true) : ∀ (l : List Ord), ordS l a b = 0 → a = b
  | [], h => rowsV_zero_eq ha hb h
  | o :: l, h => by
    rw [ordS_cons] at h
    by_cases hz : signed o.f1 (cmpV (toV (atS a o.f0)) (toV (atS b o.f0))) ≠ 0
    · rw [if_pos hz] at h; exact absurd h hz
    · rw [if_neg hz] at h; exact ordS_zero_eq ha hb l h
theorem sorted_eq {f : Row → Row → Int} (h : Pre f) : ∀ {l l' : List Row}, l.Perm l' → l.Pairwise (fun x y => f x y ≤ 0) → l'.Pairwise (fun x y => f x y ≤ 0) → (∀ x ∈ l, ∀ y ∈ l, f x y = 0 → x = y) → l = l'
  | [], l', hp, _, _, _ => by rw [List.nil_perm.1 hp]
  | x :: l, [], hp, _, _, _ => by have := hp.length_eq; simp at this
  | x :: l, y :: l', hp, h1, h2, h0 => by
    have hxy : x = y := by
      refine Classical.byContradiction fun hne => ?_
      have hy : y ∈ l := by
        have : y ∈ x :: l := hp.mem_iff.2 (by simp)
        rcases List.mem_cons.1 this with e | e
        · exact absurd e.symm hne
        · exact e
      have hx : x ∈ l' := by
        have : x ∈ y :: l' := hp.mem_iff.1 (by simp)
        rcases List.mem_cons.1 this with e | e
        · exact absurd e hne
        · exact e
      have a1 := (List.pairwise_cons.1 h1).1 y hy
      have a2 := (List.pairwise_cons.1 h2).1 x hx
      have := (h.le y x).1 a2
      exact hne (h0 x (by simp) y (by simp [hy]) (by omega))
    subst hxy
    rw [sorted_eq h ((List.perm_cons x).1 hp) (List.pairwise_cons.1 h1).2 (List.pairwise_cons.1 h2).2 (fun a ha b hb => h0 a (by simp [ha]) b (by simp [hb]))]
theorem heapS : Kd.Heap kS := Kd.heap_iso _ (Kd.heap_pair (Kd.heap_int _) (Kd.heap_pair Kd.heap_bool (Kd.heap_pair (Kd.heap_int _) Kd.heap_string)))
theorem V_of_C {w : World} {A : Option Addr} {c : Nat} {xs : List Row} (h : kRows.C w A xs.length xs) (hc : xs.length ≤ c) : Kd.V kRows tRow w w.heap.size (fun k => k < w.heap.size) (.slice A xs.length c) xs :=
  ⟨A, c, rfl, hc, Kd.C_F (Kd.heap_slice _ heapS) h⟩
theorem kS_at {w : World} {A : Option Addr} {xs : Row} (h : kS.C w A xs.length xs) (i : Nat) (hi : i < xs.length) : ∃ ad, A = some ad ∧ w.cell? (ad.add (i * 4)) = some (.int .i64 (xs.getD i zV).f0) ∧ w.cell? ⟨(ad.add (i * 4)).block, (ad.add (i * 4)).off + 1, none⟩ = some (.bool (xs.getD i zV).f1) ∧ w.cell? ⟨(ad.add (i * 4)).block, (ad.add (i * 4)).off + 2, none⟩ = some (.int .i64 (xs.getD i zV).f2) ∧ w.cell? ⟨(ad.add (i * 4)).block, (ad.add (i * 4)).off + 3, none⟩ = some (.string (xs.getD i zV).f3) := by
  obtain ⟨ad, c, e, _, hK, hc0⟩ := Kd.C_get h zV i (by omega) (by omega)
  have hc : ∀ j u, c[j]? = some u → w.cell? (ad.add (i * 4 + j)) = some u := hc0
  obtain rfl := k42_open hK
  exact ⟨ad, e, hc 0 _ rfl, by rw [← add_field _ _ 1 (by omega)]; exact hc 1 _ rfl, by rw [← add_field _ _ 2 (by omega)]; exact hc 2 _ rfl, by rw [← add_field _ _ 3 (by omega)]; exact hc 3 _ rfl⟩
set_option maxRecDepth 100000 in
set_option maxHeartbeats 4000000 in
theorem walkSorts (A0 : Option Addr) (c0 : Nat) (x0 : List Row) (A1 : Option Addr) (c1 : Nat) (x1 : List Ord) (w : World) (H0 : kRows.C w A0 x0.length x0) (C0 : x0.length ≤ c0) (H1 : kO.C w A1 x1.length x1) (C1 : x1.length ≤ c1)
    (hL : ∀ x ∈ x0, x.length ≤ 1048576) (n0 : x0.length ≤ 1048576) (n1 : x1.length ≤ 1048576) :
    Calls Try.prog 7 #[.slice A0 x0.length c0, .slice A1 x1.length c1] w fun e w' => e = .returned (.bool true) ∧ Below w.heap.size w w' := by
  obtain ⟨k0, hk0⟩ := copied_f x0 (by omega) (fun x hx => by have := hL x hx; omega)
  obtain ⟨k1, R1, hR1, hk1⟩ := refSort_f x0 x1 (by omega) (by omega)
  have hR1l := hR1.len
  have hR1m : ∀ x ∈ R1, x.length ≤ 1048576 := fun x hx => hL x (hR1.perm.mem_iff.1 hx)
  have HR1l := Lib.hid hR1l
  obtain ⟨k2, hk2⟩ := same_self R1 (by omega) (fun x hx => by have := hR1m x hx; omega)
  obtain ⟨k3, hk3⟩ := same_self x0 (by omega) (fun x hx => by have := hL x hx; omega)
  clear hR1l
  go_enter Try.func7, Try.ntmps7
  go_wp2_with fail
  refine (hayloftlaw15_copied.calls k0 A0 c0 x0 x0 w H0 C0 hk0).mono ?_
  rintro e w2 ⟨v2, rfl, hS2, hb2⟩
  obtain ⟨B2, m2, rfl, hle2, hC2⟩ := Kd.S_reads hS2
  go_wp2_with fail
  refine (sort_any B2 m2 x0 A1 c1 x1 w2 hC2 hle2 (Kd.C_below H1 hb2) C1 hL (by omega)).mono ?_
  rintro e w3 ⟨B3, m3, R, rfl, hle3, hC3, hs3, hb3⟩
  obtain rfl : R = R1 := hs3.unique (preOrd x1) hR1
  have hB3 := btr2 hb2 hb3
  go_wp2_with fail
  refine (aliveX_any _).mono ?_
  rintro e w4 ⟨rfl, hb4⟩
  have hB4 := btr2 hB3 hb4
  go_wp2_with fail
  refine (hayloftref15_Sort.calls k1 _ A0 c0 x0 A1 c1 x1 _ w4 (V_of_C (Kd.C_below H0 hB4) C0) (Kd.C_below H1 hB4) C1 hk1).mono ?_
  rintro e w5 ⟨v5, rfl, hN5, hb5⟩
  obtain ⟨B5, m5, rfl⟩ := Kd.N_slice hN5
  obtain ⟨_, hle5, hC5⟩ := Kd.N_reads' hN5
  have hB5 := btr2 hB4 hb5
  go_wp2_with fail
  have hC35 := Kd.C_below (Kd.C_below hC3 hb4) hb5
  refine (hayloftref02_SameAll.calls k2 B3 m3 R B5 m5 R true w5 hC35 hle3 hC5 hle5 hk2).mono ?_
  rintro e w6 ⟨rfl, hd6⟩
  have hB6 := btr2 hB5 hd6.below
  go_wp2_with fail
  have hb26 := btr2 (btr2 (btr2 hb3 hb4) hb5) hd6.below
  refine (hayloftref02_SameAll.calls k3 B2 m2 x0 A0 c0 x0 true w6 (Kd.C_below hC2 hb26) hle2 (Kd.C_below H0 hB6) C0 hk3).mono ?_
  rintro e w7 ⟨rfl, hd7⟩
  have hB7 := btr2 hB6 hd7.below
  have hC37 := Kd.C_below (Kd.C_below hC35 hd6.below) hd7.below
  clear hS2 hC2 hs3 hC3 hN5 hC5 hC35 hb26 hk0 hk1
  go_wp2_with fail
  have hsn : ∀ (k : Nat), k < x0.length → x0.take (k + 1) = x0.take k ++ [x0.getD k []] := fun k hk => (take_snoc' [] x0 k hk).symm
  go_loopw [7, 8, 35] (fun tv rv iv wr => ∃ (i : Nat) (r : Bool), iv = .int .i64 (i : Int) ∧ rv = .bool r ∧ i ≤ x0.length ∧ r = (x0.take i).all allR ∧ Kd.N kRows tRow wr w7.heap.size (fun _ => True) tv (x0.reverse.take i) ∧ Below w7.heap.size w7 wr) (fun _ _ iv _ => x0.length - (intOf iv).toNat)
  case atStart => exact ⟨0, true, rfl, rfl, Nat.zero_le _, by simp, Kd.N_nil _ _ _ _ _, Below.refl _ _⟩
  case round =>
    obtain ⟨i, r, rfl, rfl, hi, hr, hN, hBr⟩ := hrel
    have hBw : Below w.heap.size w wr := btr2 hB7 hBr
    by_cases hlt : i < x0.length
    · obtain ⟨d, hd⟩ : ∃ d : Nat, x0.length - 1 - i = d := ⟨_, rfl⟩
      obtain ⟨n1', hn1'⟩ : ∃ n1' : Nat, x0.length - 1 = n1' := ⟨_, rfl⟩
      have y1 : (x0.length : Int) - 1 = (n1' : Int) := by omega
      have y2 : (n1' : Int) - (i : Int) = (d : Int) := by omega
      have y3 : IntKind.i64.wrap (n1' : Int) = (n1' : Int) := wrapN (by omega)
      have y4 : IntKind.i64.wrap (d : Int) = (d : Int) := wrapN (by omega)
      have y5 : (d : Int) < (x0.length : Int) := by omega
      have y6 : d < x0.length := by omega
      obtain ⟨ad, cs, rfl, _, ⟨Ad, cp, rfl, hle, hC⟩, hcs⟩ := Kd.C_get H0 [] d (by omega) (by omega)
      obtain ⟨ad', cs', had, _, ⟨Ai, ci, rfl, hlei, hCi⟩, hcsi⟩ := Kd.C_get H0 [] i (by omega) (by omega)
      injection had with had
      subst had
      rw [Int.toNat_natCast] at hle hC hcs hlei hCi hcsi
      have hsz : kRows.sz = 1 := rfl
      have hc0 := hcs 0 _ rfl
      have hci := hcsi 0 _ rfl
      rw [hsz, Nat.mul_one, Nat.add_zero] at hc0 hci
      have hc0r := pw_cell_below hBw hc0
      have hrev : x0.reverse.getD i [] = x0.getD d [] := by
        rw [List.getD_eq_getElem?_getD, List.getD_eq_getElem?_getD, List.getElem?_reverse hlt, hd]
      have hts := take_snoc' ([] : Row) x0.reverse i (by simpa using hlt)
      rw [hrev] at hts
      have hall := hsn i hlt
      have hxi := hL _ (getD_mem [] hlt)
      have hFK : Kd.FK kRows wr (fun k => k < w.heap.size) (x0.getD d []) [.slice Ad (x0.getD d []).length cp] := Kd.FK_slice_mk hle (Kd.F_below (Kd.C_F heapS hC) hBw)
      have hPl : (x0.reverse.take i).length = i := by rw [List.length_take, List.length_reverse]; omega
      generalize x0.getD d [] = x at *
      generalize x0.getD i [] = y at *
      generalize x0.reverse.take i = P at *
      have HALL := Lib.hid (And.intro hall hr)
      have HTS := Lib.hid hts
      clear hall hts hrev hr hsn
      have hzr := hBr.size
      have hz7 := hB7.size
      have hPb : (P.length + 1) * 24 ≤ 140737488355328 := by omega
      clear hPl
      go_wp2_with (at_builtin; refine Kd.N_append kRows (w0 := w7) w7.heap.size rfl (.tmp 38) (.tmp 47) 22 31 _ 24 rfl Try.underlying22 infoRow rfl (by decide) (by decide) u7 P x [.slice Ad x.length cp] (fun _ => True) (fun k => k < w.heap.size) rfl rfl hFK (fun k hk => ⟨trivial, fun e => by have := Kd.N_base hN k e.symm; omega⟩) (fun _ _ => trivial) hN hBr hzr hPb ?_; intro v1 w8 hN8 hB8 hg8 hat8; clear hg8 hat8; have hB8w : Below w.heap.size w w8 := btr2 hB7 hB8; have hci8 := pw_cell_below hB8w hci)
      go_loopw [8, 54] (fun rv jv wq => ∃ (j : Nat) (b : Bool), jv = .int .i64 (j : Int) ∧ rv = .bool b ∧ j ≤ y.length ∧ b = (r && allR (y.take j)) ∧ Below w8.heap.size w8 wq) (fun _ jv _ => y.length - (intOf jv).toNat)
      case atStart => exact ⟨0, r, rfl, rfl, Nat.zero_le _, by simp [allR], Below.refl _ _⟩
      case round =>
        obtain ⟨j, b, rfl, rfl, hj, hb, hBq⟩ := hrel
        by_cases hjl : j < y.length
        · have hsj : allR (y.take (j + 1)) = (allR (y.take j) && rightV (toV (y.getD j zV))) := by
            rw [← take_snoc' zV y j hjl]
            simp [allR]
          obtain ⟨ay, rfl, q0, q1, q2, q3⟩ := kS_at (Kd.C_below (Kd.C_below hCi hB8w) hBq) j hjl
          generalize y.getD j zV = v at q0 q1 q2 q3 hsj
          obtain ⟨v0, v1', v2, v3⟩ := v
          simp only at q0 q1 q2 q3
          have HSJ := Lib.hid (And.intro hsj hb)
          clear hsj hb
          cases b with
          | true =>
            go_wp2_with fail
            obtain ⟨w9, hw9⟩ : ∃ w9, wr.alloc (.cells #[.int .i64 v0, .bool v1', .int .i64 v2, .string v3] 42) = w9 := ⟨_, rfl⟩
            rw [hw9]
            have hb9 : Below wr.heap.size wr w9 := by rw [← hw9]; exact below_alloc (Below.refl _ _) _
            clear hw9
            refine (hayloftref02_Right.calls v0 v1' v2 v3 _ w9 rfl).mono ?_
            rintro e w10 ⟨rfl, hb10⟩
            have hB10 : Below w8.heap.size w8 w10 := hBq.trans ((hb9.trans (hb10.mono hb9.size)).mono hBq.size)
            go_wp2
            go_roundw
            case rel => exact ⟨j + 1, _, by go_num, rfl, by omega, by rw [HSJ.out.1, ← Bool.and_assoc, ← HSJ.out.2]; rfl, hB10⟩
            case measure => simp [intOf]; omega
          | false =>
            go_wp2_with fail
            go_roundw
            case rel => exact ⟨j + 1, false, by go_num, rfl, by omega, by rw [HSJ.out.1, ← Bool.and_assoc, ← HSJ.out.2]; rfl, hBq.trans ((below_alloc (Below.refl _ _) _).mono hBq.size)⟩
            case measure => simp [intOf]; omega
        · obtain rfl : j = y.length := by omega
          rw [List.take_length] at hb
          have HB := Lib.hid hb
          clear hb
          go_wp2
          go_roundw
          case rel =>
            refine ⟨i + 1, b, by go_num, rfl, by omega, ?_, by rw [← HTS.out]; exact Kd.N_below hN8 hBq, btr2 hB8 hBq⟩
            rw [HALL.out.1, List.all_append, ← HALL.out.2, HB.out]
            simp
          case measure => simp [intOf]; omega
    · obtain rfl : i = x0.length := by omega
      rw [List.take_length] at hr
      have HR := Lib.hid hr
      clear hr
      rw [List.take_of_length_le (by simp)] at hN
      have hrl : x0.reverse.length = x0.length := List.length_reverse
      obtain ⟨T, hT⟩ : ∃ T, x0.reverse = T := ⟨_, rfl⟩
      rw [hT] at hN hrl
      have hTp : T.Perm x0 := by rw [← hT]; exact List.reverse_perm x0
      have hTl : ∀ x ∈ T, x.length ≤ 1048576 := fun x hx => hL x (hTp.mem_iff.1 hx)
      have hTle : T.length ≤ 1048576 := by omega
      have HT := Lib.hid hrl
      clear hrl hT hsn
      obtain ⟨BT, mT, rfl⟩ := Kd.N_slice hN
      obtain ⟨_, hleT, hCT⟩ := Kd.N_reads' hN
      cases r with
      | false =>
        go_wp2
        go_ret
        exact ⟨rfl, hBw⟩
      | true =>
        go_wp2_with fail
        refine (sort_any BT mT T A1 c1 x1 wr hCT hleT (Kd.C_below H1 hBw) C1 hTl (by omega)).mono ?_
        rintro e w9 ⟨B9, m9, R2, rfl, hle9, hC9, hs9, hb9⟩
        have hRR : R2 = R := by
          refine sorted_eq (preOrd x1) (hs9.perm.trans (hTp.trans hR1.perm.symm)) hs9.sorted hR1.sorted (fun a ha b hb h => ?_)
          have har : ∀ x ∈ R2, allR x = true := fun x hx => List.all_eq_true.1 HR.out.symm x (hTp.mem_iff.1 (hs9.perm.mem_iff.1 hx))
          exact ordS_zero_eq (har a ha) (har b hb) x1 h
        subst hRR
        have hB9 := btr2 hBw hb9
        go_wp2_with fail
        refine (hayloftref02_SameAll.calls k2 B9 m9 R2 B3 m3 R2 true w9 hC9 hle9 (Kd.C_below (Kd.C_below hC37 hBr) hb9) hle3 hk2).mono ?_
        rintro e w10 ⟨rfl, hd10⟩
        go_wp2
        go_ret
        exact ⟨rfl, btr2 hB9 hd10.below⟩
end Go.Proofs.Ytghblnldokpceaa.QV
