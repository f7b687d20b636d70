/- The reference's Term. -/
import Derived.Test.YtchemmppcdfljaaDoorExpr
namespace Go.Proofs.YtchemmppcdfljaaDoor.Op
open Go.RowKit Go.Proofs.YtchemmppcdfljaaDoorW.PrintWords
set_option linter.unusedVariables false

theorem tab_at (o n : Int) (h0 : 0 ≤ o) (h5 : o ≤ 5) (h1 : -1 ≤ n) (h2 : n ≤ 1) : tabL.getD (o.toNat * 3 + (n + 1).toNat) false =
    if o = 0 then n == 0 else if o = 1 then n != 0 else if o = 2 then decide (n < 0) else if o = 3 then decide (n ≤ 0) else if o = 4 then decide (0 < n) else decide (0 ≤ n) := by
  have ho : o = 0 ∨ o = 1 ∨ o = 2 ∨ o = 3 ∨ o = 4 ∨ o = 5 := by omega
  have hn : n = -1 ∨ n = 0 ∨ n = 1 := by omega
  rcases ho with rfl | rfl | rfl | rfl | rfl | rfl <;> rcases hn with rfl | rfl | rfl <;> rfl
theorem termB_ref (t : T) (row : List V) (h : 0 ≤ t.c ∧ t.c < row.length) (n : Int) (hn : cmpV (row.getD t.c.toNat V.z) t.v = n) : termB t row =
    if t.o = 6 then (row.getD t.c.toNat V.z).k == 0 else if t.o = 7 then (row.getD t.c.toNat V.z).k != 0
    else if (row.getD t.c.toNat V.z).k = 0 ∨ t.v.k = 0 then false
    else if t.o = 0 then n == 0 else if t.o = 1 then n != 0 else if t.o = 2 then decide (n < 0) else if t.o = 3 then decide (n ≤ 0) else if t.o = 4 then decide (0 < n) else t.o == 5 && decide (0 ≤ n) := by
  rw [termB_in t row h, hn]
  have hr := cmpV_range (row.getD t.c.toNat V.z) t.v
  rw [hn] at hr
  split
  · rfl
  · split
    · rfl
    · by_cases hz : (row.getD t.c.toNat V.z).k = 0 ∨ t.v.k = 0
      · rw [if_pos hz]
        split
        · rcases hz with hz | hz
          · rw [show ((row.getD t.c.toNat V.z).k != 0) = false from bne_eq_false_iff_eq.2 hz]; simp
          · rw [show (t.v.k != 0) = false from bne_eq_false_iff_eq.2 hz]; simp
        · rfl
      · rw [if_neg hz]
        have z1 : ((row.getD t.c.toNat V.z).k != 0) = true := bne_iff_ne.2 (fun e => hz (.inl e))
        have z2 : (t.v.k != 0) = true := bne_iff_ne.2 (fun e => hz (.inr e))
        rw [z1, z2]
        split
        · rename_i h05
          rw [tab_at _ _ h05.1 h05.2 hr.1 hr.2]
          repeat' split
          all_goals simp_all
          all_goals omega
        · rw [if_neg (by omega), if_neg (by omega), if_neg (by omega), if_neg (by omega), if_neg (by omega)]
          have : (t.o == 5) = false := beq_eq_false_iff_ne.2 (by omega)
          rw [this]; rfl

set_option maxHeartbeats 2000000 in
theorem ref_term (t : T) (A : Option Addr) (row : List V) (c : Nat) (w : World) (hr : kV.C w A row.length row) (hc : row.length ≤ c) :
    Calls Tryd.prog 10 #[t.val, .slice A row.length c] w fun e w' => e = .returned (.bool (termB t row)) ∧ Below w.heap.size w w' := by
  obtain ⟨tc, o, k, b, i, s⟩ := t
  have hm := hr.2.1
  unfold T.val
  by_cases h0 : 0 ≤ tc ∧ tc < row.length
  · have HF := Lib.hid (termB_ref ⟨tc, o, ⟨k, b, i, s⟩⟩ row h0 _ rfl)
    obtain ⟨h0, h1⟩ := h0
    obtain ⟨ad, rfl, hv⟩ := kV_at hr tc.toNat (by omega)
    generalize hx : row.getD tc.toNat V.z = x at hv HF
    obtain ⟨vk, vb, vi, vs⟩ := x
    obtain ⟨hlt, hv0, hv1, hv2, hv3⟩ := hv
    simp only at hv0 hv1 hv2 hv3 HF
    clear hx
    generalize hn : cmpV ⟨vk, vb, vi, vs⟩ ⟨k, b, i, s⟩ = n at HF
    have HN := Lib.hid hn
    clear hn
    go_enter Tryd.func10, Tryd.ntmps10
    go_wp2_with (go_at_call 22; refine (ref_compareV ⟨vk, vb, vi, vs⟩ ⟨k, b, i, s⟩ _).mono ?_; rintro e w1 ⟨rfl, hb⟩; obtain ⟨hbc, hbf⟩ := bcell hb; rw [HN.out])
    all_goals go_ret
    all_goals refine ⟨ret_bool ?_, by first | exact ((Below.refl _ _).alloc (Nat.le_refl _) _).alloc (by simp) _ | exact (((Below.refl _ _).alloc (Nat.le_refl _) _).alloc (by simp) _).trans (Below.mono (by assumption) (by simp; omega))⟩
    all_goals rw [HF.out]
    all_goals simp_all
  · have HF := Lib.hid (termB_out ⟨tc, o, ⟨k, b, i, s⟩⟩ row h0)
    by_cases hneg : tc < 0
    all_goals
      go_enter Tryd.func10, Tryd.ntmps10
      go_wp2
      go_ret
      exact ⟨ret_bool HF.out, (Below.refl _ _).alloc (Nat.le_refl _) _⟩
end Go.Proofs.YtchemmppcdfljaaDoor.Op
