/- The orders of values and of rows are total; what is alike, of right values, is the same. Plain Lean. -/
import Derived.Test.YtmkikigikedjoaaDoorRight
import Derived.Test.YtmkikigikedjoaaDoorRowsV
namespace Go.Proofs.YtmkikigikedjoaaDoor.Op
set_option linter.unusedVariables false

theorem ba_ext {s t : ByteArray} (h : s.toList = t.toList) : s = t := by
  rw [Lib.toList_data, Lib.toList_data] at h
  cases s; cases t
  simpa using Array.toList_inj.1 h
theorem eqVB_iff {x y : V} : eqVB x y = true ↔ x = y := by
  unfold eqVB
  constructor
  · intro h
    simp only [Bool.and_eq_true, beq_iff_eq] at h
    exact V.ext h.1 h.2.1 h.2.2.1 (ba_ext h.2.2.2)
  · rintro rfl; simp
theorem right_cases {x : V} (h : rightV x = true) : x = ⟨0, false, 0, ⟨#[]⟩⟩ ∨ (∃ b, x = ⟨1, b, 0, ⟨#[]⟩⟩) ∨ (∃ i, x = ⟨2, false, i, ⟨#[]⟩⟩) ∨ (∃ s : ByteArray, s.size ≤ 64 ∧ x = ⟨3, false, 0, s⟩) := by
  unfold rightV at h
  split at h
  · exact .inl (eqVB_iff.1 h)
  · split at h
    · exact .inr (.inl ⟨_, eqVB_iff.1 h⟩)
    · split at h
      · exact .inr (.inr (.inl ⟨_, eqVB_iff.1 h⟩))
      · split at h
        · rw [Bool.and_eq_true] at h
          exact .inr (.inr (.inr ⟨_, by have := of_decide_eq_true h.2; omega, eqVB_iff.1 h.1⟩))
        · cases h
theorem cmpV_zero {x y : V} (hx : rightV x = true) (hy : rightV y = true) : cmpV x y = 0 ↔ x = y := by
  refine ⟨fun h => ?_, fun h => by rw [h]; exact cmpV_self y⟩
  have hk : x.k = y.k := by
    by_cases e : x.k = y.k
    · exact e
    · rw [cmpV_ne e, cmpI_zero] at h; exact h
  rcases right_cases hx with rfl | ⟨b, rfl⟩ | ⟨i, rfl⟩ | ⟨s, _, rfl⟩ <;> rcases right_cases hy with rfl | ⟨b', rfl⟩ | ⟨i', rfl⟩ | ⟨s', _, rfl⟩
  all_goals first | rfl | (exfalso; revert hk; simp; done) | skip
  · rw [cmpV_1 rfl rfl] at h
    revert h
    cases b <;> cases b' <;> simp
  · rw [cmpV_2 rfl rfl, cmpI_zero] at h
    simp only at h; rw [h]
  · rw [cmpV_3 rfl rfl, compareBytes_zero] at h
    have : s = s' := ba_ext (by rw [Lib.toList_data, Lib.toList_data]; exact h)
    rw [this]
theorem rowsV_swap : ∀ a b : List V, rowsV b a = -rowsV a b
  | [], [] => rfl
  | [], _ :: _ => rfl
  | _ :: _, [] => rfl
  | x :: xs, y :: ys => by
    rw [rowsV, rowsV, cmpV_swap]
    by_cases h : cmpV x y = 0
    · rw [if_pos h, if_pos (by omega), rowsV_swap]
    · rw [if_neg h, if_neg (by omega)]
theorem rowsV_self (a : List V) : rowsV a a = 0 := by have := rowsV_swap a a; omega
theorem cmpV_zero_le {x y z : V} (h : cmpV x y = 0) : cmpV x z = cmpV y z := by
  have a1 := cmpV_trans x y z (by omega)
  have a2 := cmpV_trans y x z (by have := cmpV_swap x y; omega)
  have a3 := cmpV_trans z x y
  have a4 := cmpV_trans z y x
  have s1 := cmpV_swap x z
  have s2 := cmpV_swap y z
  have s3 := cmpV_swap x y
  have r1 := cmpV_range x z
  have r2 := cmpV_range y z
  omega
theorem cmpV_zero_ge {x y z : V} (h : cmpV x y = 0) : cmpV z x = cmpV z y := by
  rw [cmpV_swap x z, cmpV_swap y z, cmpV_zero_le h]
theorem rowsV_trans : ∀ a b c : List V, rowsV a b ≤ 0 → rowsV b c ≤ 0 → rowsV a c ≤ 0
  | [], _, [], _, _ => by rw [rowsV]; omega
  | [], _, _ :: _, _, _ => by rw [rowsV]; omega
  | _ :: _, [], _, h, _ => by rw [rowsV] at h; omega
  | _ :: _, _ :: _, [], _, h => by rw [rowsV] at h; omega
  | x :: xs, y :: ys, z :: zs, h1, h2 => by
    have ih := rowsV_trans xs ys zs
    rw [rowsV] at h1 h2 ⊢
    by_cases e1 : cmpV x y = 0
    · rw [if_pos e1] at h1
      rw [cmpV_zero_le e1]
      by_cases e2 : cmpV y z = 0
      · rw [if_pos e2] at h2 ⊢
        exact ih h1 h2
      · rw [if_neg e2] at h2 ⊢
        exact h2
    · rw [if_neg e1] at h1
      by_cases e2 : cmpV y z = 0
      · rw [if_neg (by rw [← cmpV_zero_ge e2]; exact e1), ← cmpV_zero_ge e2]
        exact h1
      · rw [if_neg e2] at h2
        have h3 := cmpV_trans x y z h1 h2
        split
        · rename_i h0
          exfalso
          have := cmpV_zero_le (z := y) h0
          have := cmpV_swap y z
          omega
        · exact h3
theorem rowsV_zero : ∀ a b : List V, (∀ x ∈ a, rightV x = true) → (∀ x ∈ b, rightV x = true) → (rowsV a b = 0 ↔ a = b)
  | [], [], _, _ => by simp [rowsV]
  | [], _ :: _, _, _ => by simp [rowsV]
  | _ :: _, [], _, _ => by simp [rowsV]
  | x :: xs, y :: ys, ha, hb => by
    rw [rowsV]
    have hz := cmpV_zero (ha x (by simp)) (hb y (by simp))
    by_cases h : cmpV x y = 0
    · rw [if_pos h, rowsV_zero xs ys (fun z hz => ha z (by simp [hz])) (fun z hz => hb z (by simp [hz])), hz.1 h]
      simp
    · rw [if_neg h]
      refine ⟨fun e => absurd e h, fun e => ?_⟩
      exact absurd (hz.2 (List.cons.inj e).1) h
theorem rowsV_range : ∀ a b : List V, -1 ≤ rowsV a b ∧ rowsV a b ≤ 1
  | [], [] => by rw [rowsV]; omega
  | [], _ :: _ => by rw [rowsV]; omega
  | _ :: _, [] => by rw [rowsV]; omega
  | x :: xs, y :: ys => by
    rw [rowsV]
    split
    · exact rowsV_range xs ys
    · exact cmpV_range x y
theorem rowsV_init : ∀ (a : List V) (x : V), rowsV a (a ++ [x]) = -1
  | [], x => rfl
  | y :: a, x => by
    rw [List.cons_append, rowsV, if_pos (cmpV_self y)]
    exact rowsV_init a x
end Go.Proofs.YtmkikigikedjoaaDoor.Op
