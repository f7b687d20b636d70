/- The order of rows: value.Rows and the reference's. -/
import Derived.Test.YtghblnldokpceaaValue
namespace Go.Proofs.Ytghblnldokpceaa.Op
open Go.RowKit Go.Proofs.YtghblnldokpceaaW.PrintWords
set_option linter.unusedVariables false
set_option linter.unusedSimpArgs false

def rowsV : List V → List V → Int
  | [], [] => 0
  | [], _ :: _ => -1
  | _ :: _, [] => 1
  | x :: xs, y :: ys => if cmpV x y = 0 then rowsV xs ys else cmpV x y
theorem rowsV_hit : ∀ (a b : List V) (k : Nat), k < a.length → k < b.length → (∀ j, j < k → cmpV (a.getD j V.z) (b.getD j V.z) = 0) → cmpV (a.getD k V.z) (b.getD k V.z) ≠ 0 → rowsV a b = cmpV (a.getD k V.z) (b.getD k V.z)
  | [], _, k, h, _, _, _ => absurd h (by simp)
  | _ :: _, [], k, _, h, _, _ => absurd h (by simp)
  | x :: xs, y :: ys, 0, _, _, _, hn => by
    simp only [List.getD_cons_zero] at hn ⊢
    rw [rowsV, if_neg hn]
  | x :: xs, y :: ys, k + 1, ha, hb, h, hn => by
    have h0 := h 0 (by omega)
    simp only [List.getD_cons_zero] at h0
    simp only [List.getD_cons_succ] at hn ⊢
    rw [rowsV, if_pos h0]
    exact rowsV_hit xs ys k (by simpa using ha) (by simpa using hb) (fun j hj => by have := h (j + 1) (by omega); simpa only [List.getD_cons_succ] using this) hn
theorem rowsV_end : ∀ (a b : List V), (∀ j, j < a.length → j < b.length → cmpV (a.getD j V.z) (b.getD j V.z) = 0) → rowsV a b = cmpI a.length b.length
  | [], [], _ => rfl
  | [], _ :: _, _ => by rw [rowsV]; simp only [cmpI, List.length_nil, List.length_cons]; rw [if_pos (by omega)]
  | _ :: _, [], _ => by rw [rowsV]; simp only [cmpI, List.length_nil, List.length_cons]; rw [if_neg (by omega), if_pos (by omega)]
  | x :: xs, y :: ys, h => by
    have h0 := h 0 (by simp) (by simp)
    simp only [List.getD_cons_zero] at h0
    rw [rowsV, if_pos h0, rowsV_end xs ys (fun j h1 h2 => by have := h (j + 1) (by simpa using h1) (by simpa using h2); simpa only [List.getD_cons_succ] using this)]
    simp only [cmpI, List.length_cons]
    repeat' split
    all_goals omega

set_option maxHeartbeats 1000000 in
theorem rows_any (A : Option Addr) (a : List V) (ca : Nat) (B : Option Addr) (b : List V) (cb : Nat) (w : World) (ha : kV.C w A a.length a) (hca : a.length ≤ ca) (hb : kV.C w B b.length b) (hcb : b.length ≤ cb) :
    Calls Try.prog 43 #[.slice A a.length ca, .slice B b.length cb] w fun e w' => e = .returned (.int .i64 (rowsV a b)) ∧ Below w.heap.size w w' := by
  have hma := ha.2.1
  have hmb := hb.2.1
  have hmin : ∃ m : Nat, min (a.length : Int) (b.length : Int) = (m : Int) ∧ m ≤ a.length ∧ m ≤ b.length ∧ (m = a.length ∨ m = b.length) := ⟨min a.length b.length, by omega, by omega, by omega, by omega⟩
  go_enter Try.func43, Try.ntmps43
  go_wp2
  obtain ⟨m, hm, hma', hmb', hmor⟩ := hmin
  rw [hm]
  have HM := Lib.hid hm
  clear hm
  go_loopw [12] (fun i wr => ∃ k : Nat, i = .int .i64 k ∧ k ≤ m ∧ (∀ j, j < k → cmpV (a.getD j V.z) (b.getD j V.z) = 0) ∧ Below w.heap.size w wr) (fun i _ => m - (intOf i).toNat)
  case atStart => exact ⟨0, rfl, Nat.zero_le _, fun _ h => by omega, Below.refl _ _⟩
  case round =>
    obtain ⟨k, rfl, hk, hall, hB⟩ := hrel
    have HA := Lib.hid hall
    clear hall
    by_cases hltm : k < m
    case neg =>
      obtain rfl : k = m := by omega
      have HE := Lib.hid (rowsV_end a b (fun j h1 h2 => HA.out j (by omega)))
      go_wp2_with fail
      refine (cmpInt _ _ _).mono ?_
      rintro e w1 ⟨rfl, rfl⟩
      go_wp2
      go_ret
      exact ⟨ret_int HE.out, hB⟩
    have hlt : k < a.length := by omega
    have hlt2 : k < b.length := by omega
    obtain ⟨ad, rfl, hv⟩ := kV_at (Kd.C_below ha hB) k hlt
    obtain ⟨bd, rfl, hu⟩ := kV_at (Kd.C_below hb hB) k hlt2
    have hhit := Lib.hid (rowsV_hit a b k hlt hlt2 HA.out)
    have hstep : cmpV (a.getD k V.z) (b.getD k V.z) = 0 → ∀ j, j < k + 1 → cmpV (a.getD j V.z) (b.getD j V.z) = 0 := fun h j hj => by
      rcases Nat.lt_or_ge j k with hjk | hjk
      · exact HA.out j hjk
      · obtain rfl : j = k := by omega
        exact h
    have HS := Lib.hid hstep
    clear hstep HA
    generalize a.getD k V.z = x at hv hhit HS
    generalize b.getD k V.z = y at hu hhit HS
    have hcv := fun w => compareV x y w
    obtain ⟨k1, b1, i1, s1⟩ := x
    obtain ⟨k2, b2, i2, s2⟩ := y
    obtain ⟨hvl, hv0, hv1, hv2, hv3⟩ := hv
    obtain ⟨hul, hu0, hu1, hu2, hu3⟩ := hu
    simp only at hv0 hv1 hv2 hv3 hu0 hu1 hu2 hu3
    unfold V.val at hcv
    generalize cmpV ⟨k1, b1, i1, s1⟩ ⟨k2, b2, i2, s2⟩ = n at hcv hhit HS
    have HC := Lib.hid hcv
    clear hcv
    by_cases hn : n = 0
    · subst hn
      go_wp2_with fail
      first | go_region_with (first | (go_at_call 34; refine (HC.out _).mono ?_; rintro e w1 ⟨rfl, hb1⟩; have hz := (below_drew hB).trans (hb1.mono (below_drew hB).size))) | fail
      all_goals
        go_wp2
        go_roundw
        case rel => exact ⟨k + 1, by go_num, by omega, HS.out trivial, by assumption⟩
        case measure => simp [intOf]; omega
    · have hnb : (n != 0) = true := bne_iff_ne.2 hn
      go_wp2_with fail
      first | go_region_with (first | (go_at_call 34; refine (HC.out _).mono ?_; rintro e w1 ⟨rfl, hb1⟩; have hz := (below_drew hB).trans (hb1.mono (below_drew hB).size))) | fail
      all_goals
        go_wp2
        go_ret
        exact ⟨ret_int (hhit.out hn), by assumption⟩

set_option maxHeartbeats 1000000 in
theorem ref_rows (A : Option Addr) (a : List V) (ca : Nat) (B : Option Addr) (b : List V) (cb : Nat) (w : World) (ha : kV.C w A a.length a) (hca : a.length ≤ ca) (hb : kV.C w B b.length b) (hcb : b.length ≤ cb) :
    Calls Try.prog 23 #[.slice A a.length ca, .slice B b.length cb] w fun e w' => e = .returned (.int .i64 (rowsV a b)) ∧ Below w.heap.size w w' := by
  have hma := ha.2.1
  have hmb := hb.2.1
  go_enter Try.func23, Try.ntmps23
  go_wp2
  go_loopw [5] (fun i wr => ∃ k : Nat, i = .int .i64 k ∧ k ≤ a.length ∧ k ≤ b.length ∧ (∀ j, j < k → cmpV (a.getD j V.z) (b.getD j V.z) = 0) ∧ Below w.heap.size w wr) (fun i _ => a.length - (intOf i).toNat)
  case atStart => exact ⟨0, rfl, Nat.zero_le _, Nat.zero_le _, fun _ h => by omega, Below.refl _ _⟩
  case round =>
    obtain ⟨k, rfl, hk, hkb, hall, hB⟩ := hrel
    have HA := Lib.hid hall
    clear hall
    by_cases hlt : k < a.length
    case neg =>
      obtain rfl : k = a.length := by omega
      have he := rowsV_end a b (fun j h1 h2 => HA.out j h1)
      have HE := Lib.hid he
      clear he
      by_cases hl : a.length < b.length
      all_goals
        go_wp2
        go_ret
        exact ⟨ret_int (by rw [HE.out]; unfold cmpI; repeat' split <;> omega), hB⟩
    by_cases hlt2 : k < b.length
    case neg =>
      obtain rfl : k = b.length := by omega
      have HE := Lib.hid (rowsV_end a b (fun j h1 h2 => HA.out j h2))
      go_wp2
      go_ret
      exact ⟨ret_int (by rw [HE.out]; unfold cmpI; repeat' split <;> omega), hB⟩
    obtain ⟨ad, rfl, hv⟩ := kV_at (Kd.C_below ha hB) k hlt
    obtain ⟨bd, rfl, hu⟩ := kV_at (Kd.C_below hb hB) k hlt2
    have hhit := Lib.hid (rowsV_hit a b k hlt hlt2 HA.out)
    have hstep : cmpV (a.getD k V.z) (b.getD k V.z) = 0 → ∀ j, j < k + 1 → cmpV (a.getD j V.z) (b.getD j V.z) = 0 := fun h j hj => by
      rcases Nat.lt_or_ge j k with hjk | hjk
      · exact HA.out j hjk
      · obtain rfl : j = k := by omega
        exact h
    have HS := Lib.hid hstep
    clear hstep HA
    generalize a.getD k V.z = x at hv hhit HS
    generalize b.getD k V.z = y at hu hhit HS
    have hcv := fun w => ref_compareV x y w
    have hne : k ≠ b.length := by omega
    obtain ⟨k1, b1, i1, s1⟩ := x
    obtain ⟨k2, b2, i2, s2⟩ := y
    obtain ⟨hvl, hv0, hv1, hv2, hv3⟩ := hv
    obtain ⟨hul, hu0, hu1, hu2, hu3⟩ := hu
    simp only at hv0 hv1 hv2 hv3 hu0 hu1 hu2 hu3
    unfold V.val at hcv
    generalize cmpV ⟨k1, b1, i1, s1⟩ ⟨k2, b2, i2, s2⟩ = n at hcv hhit HS
    have HC := Lib.hid hcv
    clear hcv
    by_cases hn : n = 0
    · subst hn
      go_wp2_with fail
      first | go_region_with (first | (go_at_call 20; refine (HC.out _).mono ?_; rintro e w1 ⟨rfl, hb1⟩; have hz := (below_drew hB).trans (hb1.mono (below_drew hB).size))) | fail
      all_goals
        go_wp2
        go_roundw
        case rel => exact ⟨k + 1, by go_num, by omega, by omega, HS.out trivial, by assumption⟩
        case measure => simp [intOf]; omega
    · have hnb : (n != 0) = true := bne_iff_ne.2 hn
      go_wp2_with fail
      first | go_region_with (first | (go_at_call 20; refine (HC.out _).mono ?_; rintro e w1 ⟨rfl, hb1⟩; have hz := (below_drew hB).trans (hb1.mono (below_drew hB).size))) | fail
      all_goals
        go_wp2
        go_ret
        exact ⟨ret_int (hhit.out hn), by assumption⟩
end Go.Proofs.Ytghblnldokpceaa.Op
