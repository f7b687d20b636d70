/- ExprContrary: the whole walk. -/
import Derived.Test.YtchemmppcdfljaaDoorLContrary
namespace Go.Proofs.YtchemmppcdfljaaDoor.Op
open Go.RowKit Go.Proofs.YtchemmppcdfljaaDoorW.PrintWords
set_option linter.unusedVariables false

set_option maxHeartbeats 4000000 in
theorem walkContrary (t : T) (A : Option Addr) (row : List V) (c : Nat) (w : World) (hr : kV.C w A row.length row) (hc : row.length ≤ c) (hT : Tab w) :
    Calls Tryd.prog 4 #[t.val, .slice A row.length c] w fun e w' => e = .returned (.bool true) ∧ Below w.heap.size w w' := by
  obtain ⟨tc, o, x⟩ := t
  by_cases h : 0 ≤ tc ∧ tc < row.length
  · by_cases hk1 : (row.getD tc.toNat V.z).k = 0
    · obtain ⟨k, b, i, s⟩ := x
      have hm := hr.2.1
      obtain ⟨h0, h1⟩ := h
      obtain ⟨ad, rfl, hv⟩ := kV_at hr tc.toNat (by omega)
      generalize row.getD tc.toNat V.z = y at *
      obtain ⟨vk, vb, vi, vs⟩ := y
      obtain ⟨hlt, hv0, hv1, hv2, hv3⟩ := hv
      simp only at hv0 hv1 hv2 hv3 hk1
      subst hk1
      unfold T.val
      go_enter Tryd.func4, Tryd.ntmps4
      go_wp2_with fail
      have hB := below_alloc (below_alloc (Below.refl w.heap.size w) (.cells #[.int .i64 tc, .int .i64 o, .int .i64 k, .bool b, .int .i64 i, .string s] 27)) (.cells #[.slice (some ad) row.length c] 23)
      refine (alive_any _ (hT.below hB)).mono ?_
      rintro e w1 ⟨rfl, hb⟩
      go_wp2
      go_ret
      exact ⟨rfl, hB.trans (hb.mono (by simp; omega))⟩
    · by_cases hk2 : x.k = 0
      · obtain ⟨k, b, i, s⟩ := x
        have hm := hr.2.1
        obtain ⟨h0, h1⟩ := h
        obtain ⟨ad, rfl, hv⟩ := kV_at hr tc.toNat (by omega)
        generalize row.getD tc.toNat V.z = y at *
        obtain ⟨vk, vb, vi, vs⟩ := y
        obtain ⟨hlt, hv0, hv1, hv2, hv3⟩ := hv
        simp only at hv0 hv1 hv2 hv3 hk1 hk2
        subst hk2
        have hk1b : (vk == 0) = false := beq_eq_false_iff_ne.2 hk1
        clear hk1
        unfold T.val
        go_enter Tryd.func4, Tryd.ntmps4
        go_wp2_with fail
        have hB := below_alloc (below_alloc (Below.refl w.heap.size w) (.cells #[.int .i64 tc, .int .i64 o, .int .i64 0, .bool b, .int .i64 i, .string s] 27)) (.cells #[.slice (some ad) row.length c] 23)
        refine (alive_any _ (hT.below hB)).mono ?_
        rintro e w1 ⟨rfl, hb⟩
        go_wp2
        go_ret
        exact ⟨rfl, hB.trans (hb.mono (by simp; omega))⟩
      · have hr3 : cmpV (row.getD tc.toNat V.z) x = -1 ∨ cmpV (row.getD tc.toNat V.z) x = 0 ∨ cmpV (row.getD tc.toNat V.z) x = 1 := by
          have := cmpV_range (row.getD tc.toNat V.z) x
          omega
        rcases hr3 with hn | hn | hn
        · exact contrary_lo tc o x A row c w hr hc hT h hk1 hk2 hn
        · exact contrary_eq tc o x A row c w hr hc hT h hk1 hk2 hn
        · exact contrary_hi tc o x A row c w hr hc hT h hk1 hk2 hn
  · obtain ⟨k, b, i, s⟩ := x
    have hm := hr.2.1
    unfold T.val
    have hB := below_alloc (below_alloc (Below.refl w.heap.size w) (.cells #[.int .i64 tc, .int .i64 o, .int .i64 k, .bool b, .int .i64 i, .string s] 27)) (.cells #[.slice A row.length c] 23)
    by_cases hneg : tc < 0
    all_goals
      go_enter Tryd.func4, Tryd.ntmps4
      go_wp2_with fail
      refine (alive_any _ (hT.below hB)).mono ?_
      rintro e w1 ⟨rfl, hb⟩
      go_wp2
      go_ret
      exact ⟨rfl, hB.trans (hb.mono (by simp; omega))⟩
end Go.Proofs.YtchemmppcdfljaaDoor.Op
