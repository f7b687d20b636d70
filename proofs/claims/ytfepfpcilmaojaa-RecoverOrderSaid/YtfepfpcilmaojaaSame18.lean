/- SameAll of a list and itself. -/
import Derived.Test.YtfepfpcilmaojaaQVx5
import Derived.Test.YtfepfpcilmaojaaTell
namespace Go.Proofs.Ytfepfpcilmaojaa.QV
open Go.RowKit Go.Proofs.YtfepfpcilmaojaaW.PrintWords Go.Proofs.Ytfepfpcilmaojaa.Mp
set_option linter.unusedVariables false
set_option linter.unusedSimpArgs false
theorem lift' {α : Type} {f : Nat → Option α} (h : ∀ k, LeO (f k) (f (k + 1))) {k : Nat} {r : α} (hk : f k = some r) {m : Nat} (hm : k ≤ m) : f m = some r := by
  obtain ⟨d, rfl⟩ : ∃ d, m = k + d := ⟨m - k, by omega⟩
  induction d with
  | zero => exact hk
  | succ d ih => exact h (k + d) r (ih (Nat.le_add_right _ _))
abbrev Val := S36
theorem same_l0 (l : List Val) (hl : l.length < 9223372036854775807) (a b c a' b' c' : Int) : ∀ (n i : Nat), i + n = l.length → hayloftref10_Same.l0 (n + 1) i a b l c a' b' l c' = some true := by
  intro n
  induction n with
  | zero =>
    intro i hi
    rw [hayloftref10_Same.l0, if_neg (by omega)]
  | succ n ih =>
    intro i hi
    have hw : wrap64 ((i : Int) + 1) = ((i + 1 : Nat) : Int) := by rw [wrap_succ i (by omega)]; rfl
    rw [hayloftref10_Same.l0, if_pos (by omega), if_pos (Int.natCast_nonneg i), if_pos (by omega), hw, ih (i + 1) (by omega)]
    simp
theorem same_f (x : Ver) (hx : x.f1.length < 9223372036854775807) : hayloftref10_Same.f (x.f1.length + 2) x.f0.f0 x.f0.f1 x.f1 x.f2 x.f0.f0 x.f0.f1 x.f1 x.f2 = some true := by
  unfold hayloftref10_Same.f
  rw [if_neg (by simp), if_pos rfl, hayloftref10_Same.j0, if_neg (by simp)]
  exact same_l0 x.f1 hx _ _ _ _ _ _ x.f1.length 0 (by omega)
theorem sameAll_l0 (L : List Ver) (hL : L.length < 9223372036854775807) (F : Nat) (hF : ∀ x ∈ L, x.f1.length + 2 ≤ F) (hr : ∀ x ∈ L, x.f1.length < 9223372036854775807) : ∀ (n i : Nat), i + n = L.length → hayloftref10_SameAll.l0 (F + n + 1) L L i = some true := by
  intro n
  induction n with
  | zero =>
    intro i hi
    rw [hayloftref10_SameAll.l0, if_neg (by omega)]
  | succ n ih =>
    intro i hi
    have hw : wrap64 ((i : Int) + 1) = ((i + 1 : Nat) : Int) := by rw [wrap_succ i (by omega)]; rfl
    have hm : rd_T34 L (i : Int) ∈ L := getD_mem z34 (by omega : i < L.length)
    rw [hayloftref10_SameAll.l0, if_pos (by omega), if_pos (Int.natCast_nonneg i), if_pos (by omega), hw]
    generalize rd_T34 L (i : Int) = x at hm
    have hx := same_f x (hr x hm)
    have hx' := lift' (f := fun k => hayloftref10_Same.f k x.f0.f0 x.f0.f1 x.f1 x.f2 x.f0.f0 x.f0.f1 x.f1 x.f2) (fun k => hayloftref10_Same.mono _ _ _ _ _ _ _ _ k) hx (m := F + (n + 1)) (by have := hF x hm; omega)
    rw [show hayloftref10_Same.f (F + (n + 1)) x.f0.f0 x.f0.f1 x.f1 x.f2 x.f0.f0 x.f0.f1 x.f1 x.f2 = some true from hx', Option.bind_some, if_pos rfl]
    rw [show F + (n + 1) = F + n + 1 by omega]
    exact ih (i + 1) (by omega)
theorem row_bound : ∀ L : List Ver, ∃ F, ∀ x ∈ L, x.f1.length + 2 ≤ F
  | [] => ⟨0, fun x h => by simp at h⟩
  | a :: L => by
    obtain ⟨F, h⟩ := row_bound L
    exact ⟨F + (a.f1.length + 2), fun x hx => by
      rcases List.mem_cons.1 hx with rfl | hx
      · omega
      · have := h x hx; omega⟩
/-- From some fuel on. -/
theorem sameAll_f (L : List Ver) (hL : L.length < 9223372036854775807) (hr : ∀ x ∈ L, x.f1.length < 9223372036854775807) : ∃ K, ∀ k, K ≤ k → hayloftref10_SameAll.f k L L = some true := by
  obtain ⟨F, hF⟩ := row_bound L
  refine ⟨F + L.length + 1, fun k hk => ?_⟩
  refine lift' (f := fun k => hayloftref10_SameAll.f k L L) (fun k => hayloftref10_SameAll.mono _ _ k) (k := F + L.length + 1) ?_ hk
  show hayloftref10_SameAll.f _ L L = _
  unfold hayloftref10_SameAll.f
  rw [if_pos rfl]
  exact sameAll_l0 L hL F hF hr L.length 0 (by omega)
/-- The rows of what is told are rows that were given. -/
theorem told_row {F : Nm → Option Ver} {L : List Ver} (h : IsTold F L) {p : Ver → Prop} (hp : ∀ k x, F k = some x → p x) : ∀ x ∈ L, p x := fun x hx => hp _ x (h.2.1 x hx).2
theorem uptoF_row (l : List Ver) (ep : Int) (k : Nm) (x : Ver) (h : uptoF l ep k = some x) : ∃ y ∈ l, x.f1 = y.f1 := by
  unfold uptoF at h
  split at h
  · cases h
  · obtain ⟨y, hy, rfl⟩ := Option.map_eq_some_iff.1 h
    exact ⟨y, firstOf_mem l k y hy, asOf_f1 ep y⟩
theorem toldL_len (F : Nm → Option Ver) (ks : List Nm) : (toldL F ks).length ≤ (nmsL ks).length := List.length_filterMap_le _ _
end Go.Proofs.Ytfepfpcilmaojaa.QV
