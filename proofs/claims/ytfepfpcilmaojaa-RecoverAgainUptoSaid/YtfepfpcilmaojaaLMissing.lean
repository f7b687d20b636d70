/- The plain law of RecoverMissing. -/
import Derived.Test.YtfepfpcilmaojaaQVx4
import Derived.Test.YtfepfpcilmaojaaGR
import Derived.Test.YtfepfpcilmaojaaQVx5
import Derived.Test.YtfepfpcilmaojaaMissing
namespace Go.Proofs.Ytfepfpcilmaojaa.QV
open Go.RowKit Go.Proofs.YtfepfpcilmaojaaW.PrintWords Go.Proofs.Ytfepfpcilmaojaa.Mp
set_option linter.unusedVariables false
set_option linter.unusedSimpArgs false
theorem lift {α : Type} {f : Nat → Option α} (h : ∀ k, LeO (f k) (f (k + 1))) {k : Nat} {r : α} (hk : f k = some r) (d : Nat) : f (k + d) = some r := by
  induction d with
  | zero => exact hk
  | succ d ih => exact h (k + d) r ih
theorem alive18 : hayloftlaw18_alive.f = some true := by kernel_rfl
theorem rdSg (l : List Sg) (i : Nat) : rd_T50 l (i : Int) = l.getD i z50 := rfl
theorem rdHd (l : List Hd) (i : Nat) : rd_T66 l (i : Int) = l.getD i z66 := rfl
theorem inner_f (K : Nat) (l : List Sg) (m : List Hd) (acc : List Sg) (i : Nat) (hi : i < l.length) (hl : l.length < 8796093022208) (hm : m.length < 9223372036854775807) (ha : acc.length < 8796093022208) :
    ∀ (n j : Nat) (b : Bool), j + n = m.length →
      hayloftref18_Missing.l1 (K + n + 1) l m acc i b j = if (b || heldB (m.drop j) (l.getD i z50)) = true then hayloftref18_Missing.l0 K l m acc ((i : Int) + 1) else hayloftref18_Missing.l0 K l m (acc ++ [l.getD i z50]) ((i : Int) + 1) := by
  have hw : wrap64 ((i : Int) + 1) = i + 1 := wrap_succ i (by omega)
  intro n
  induction n with
  | zero =>
    intro j b hj
    rw [Nat.add_zero] at hj
    subst hj
    rw [hayloftref18_Missing.l1, if_neg (by omega), hw, List.drop_length]
    cases b
    · rw [if_neg (by simp), if_pos (Int.natCast_nonneg i), if_pos (by omega), if_pos ha, rdSg]
      simp [heldB]
    · simp
  | succ n ih =>
    intro j b hj
    have hjl : j < m.length := by omega
    have hwj : wrap64 ((j : Int) + 1) = ((j + 1 : Nat) : Int) := by rw [wrap_succ j (by omega)]; rfl
    rw [show K + (n + 1) + 1 = (K + n + 1) + 1 by omega, hayloftref18_Missing.l1, if_pos (by omega), if_pos (Int.natCast_nonneg j), if_pos (Int.natCast_nonneg i), if_pos (by omega), hwj, ih (j + 1) true (by omega), ih (j + 1) b (by omega), rdHd, rdSg]
    rw [List.drop_eq_getElem_cons hjl]
    have hg : m.getD j z66 = m[j] := by rw [List.getD_eq_getElem?_getD, List.getElem?_eq_getElem hjl]; rfl
    rw [hg]
    generalize l.getD i z50 = x
    have hh : heldB (m[j] :: m.drop (j + 1)) x = (decide (m[j].f0 = x) || heldB (m.drop (j + 1)) x) := rfl
    rw [hh]
    have hd : (m[j].f0.f0 == x.f0 && (m[j].f0.f1 == x.f1)) = decide (m[j].f0 = x) := by
      by_cases e : m[j].f0 = x
      · rw [e]; simp
      · have : ¬ (m[j].f0.f0 = x.f0 ∧ m[j].f0.f1 = x.f1) := fun h => e (Sg.ext' h.1 h.2)
        simp only [e, decide_false]
        rw [Bool.and_eq_false_iff]
        rw [beq_eq_false_iff_ne, beq_eq_false_iff_ne]
        omega
    rw [hd]
    cases decide (m[j].f0 = x) <;> cases b <;> simp
theorem outer_f (l : List Sg) (m : List Hd) (hl : l.length < 8796093022208) (hm : m.length < 9223372036854775807) :
    ∀ (n i : Nat) (acc : List Sg), i + n = l.length → acc.length ≤ i → hayloftref18_Missing.l0 (n * (m.length + 2) + 1) l m acc i = some (acc ++ (l.drop i).filter (fun k => !heldB m k)) := by
  intro n
  induction n with
  | zero =>
    intro i acc hi ha
    rw [Nat.add_zero] at hi
    subst hi
    rw [Nat.zero_mul, hayloftref18_Missing.l0, if_neg (by omega), List.drop_length]
    simp
  | succ n ih =>
    intro i acc hi ha
    have hil : i < l.length := by omega
    rw [show (n + 1) * (m.length + 2) + 1 = ((n * (m.length + 2) + 1) + m.length + 1) + 1 by rw [Nat.succ_mul]; omega, hayloftref18_Missing.l0, if_pos (by omega)]
    have h0 := inner_f (n * (m.length + 2) + 1) l m acc i hil hl hm (by omega) m.length 0 false (by omega)
    rw [show ((0 : Nat) : Int) = 0 from rfl] at h0
    rw [h0, show ((i : Int) + 1) = ((i + 1 : Nat) : Int) from rfl, ih (i + 1) acc (by omega) (by omega), ih (i + 1) (acc ++ [_]) (by omega) (by simp; omega)]
    rw [List.drop_zero, Bool.false_or, List.drop_eq_getElem_cons hil, List.filter_cons]
    have hg : l.getD i z50 = l[i] := by rw [List.getD_eq_getElem?_getD, List.getElem?_eq_getElem hil]; rfl
    rw [hg]
    cases heldB m l[i] <;> simp
theorem same_l (r : List Sg) (hr : r.length < 9223372036854775807) (K : Nat) : ∀ (n i : Nat), i + n = r.length → hayloftlaw18_RecoverMissing.l0 (K + n + 1) r r (r.length : Int) i = some true := by
  intro n
  induction n with
  | zero =>
    intro i hi
    rw [hayloftlaw18_RecoverMissing.l0, if_neg (by omega)]
  | succ n ih =>
    intro i hi
    have hwj : wrap64 ((i : Int) + 1) = ((i + 1 : Nat) : Int) := by rw [wrap_succ i (by omega)]; rfl
    rw [show K + (n + 1) + 1 = (K + n + 1) + 1 by omega, hayloftlaw18_RecoverMissing.l0, if_pos (by omega), if_pos (Int.natCast_nonneg i), if_pos (by omega), if_pos (by omega), hwj, ih (i + 1) (by omega)]
    simp
theorem pureMissing (l : List Sg) (m : List Hd) (h1 : ∀ x ∈ l, Sok x) (h2 : ∀ x ∈ m, Sok x.f0) (h3 : l.length * 16 ≤ 140737488351232) (h4 : m.length * 40 ≤ 140737488351232) : ∃ k, hayloftlaw18_RecoverMissing.f k l m = some true := by
  have hM : recover_Missing.f l m = some (l.filter (fun k => !heldB m k)) := by
    unfold recover_Missing.f
    rw [if_pos ⟨List.all_eq_true.2 fun x hx => (sokB_iff x).2 (h1 x hx), List.all_eq_true.2 fun x hx => (sokB_iff x.f0).2 (h2 x hx), by omega, by omega⟩]
  have hR : hayloftref18_Missing.f (l.length * (m.length + 2) + 1) l m = some (l.filter (fun k => !heldB m k)) := by
    unfold hayloftref18_Missing.f
    have := outer_f l m (by omega) (by omega) l.length 0 [] (by omega) (Nat.le_refl _)
    rw [List.drop_zero] at this
    exact this
  have hlen : (l.filter (fun k => !heldB m k)).length ≤ l.length := List.length_filter_le _ _
  refine ⟨(l.length * (m.length + 2) + 1) + (l.length + 2), ?_⟩
  unfold hayloftlaw18_RecoverMissing.f
  rw [hM, Option.bind_some, lift (f := fun k => hayloftref18_Missing.f k l m) (fun k => hayloftref18_Missing.mono l m k) hR, Option.bind_some, alive18, Option.bind_some, if_pos rfl]
  generalize l.filter (fun k => !heldB m k) = r at hlen
  have hj := same_l r (by omega) (l.length * (m.length + 2) + 1 + l.length - r.length) r.length 0 (by omega)
  rw [show (l.length * (m.length + 2) + 1) + (l.length + 2) = (l.length * (m.length + 2) + 1 + l.length - r.length + r.length + 1) + 1 by omega, hayloftlaw18_RecoverMissing.j0, if_neg (by simp)]
  exact hj
end Go.Proofs.Ytfepfpcilmaojaa.QV
/- SameAll of a list and itself. -/
namespace Go.Proofs.Ytfepfpcilmaojaa.QV
open Go.RowKit Go.Proofs.YtfepfpcilmaojaaW.PrintWords Go.Proofs.Ytfepfpcilmaojaa.Mp
set_option linter.unusedVariables false
set_option linter.unusedSimpArgs false
theorem lift' {α : Type} {f : Nat → Option α} (h : ∀ k, LeO (f k) (f (k + 1))) {k : Nat} {r : α} (hk : f k = some r) {m : Nat} (hm : k ≤ m) : f m = some r := by
  obtain ⟨d, rfl⟩ : ∃ d, m = k + d := ⟨m - k, by omega⟩
  induction d with
  | zero => exact hk
  | succ d ih => exact h (k + d) r (ih (Nat.le_add_right _ _))
abbrev Val := S36
theorem same_l0 (l : List Val) (hl : l.length < 9223372036854775807) (a b c a' b' c' : Int) : ∀ (n i : Nat), i + n = l.length → hayloftref10_Same.l0 (n + 1) i a b l c a' b' l c' = some true := by
  intro n
  induction n with
  | zero =>
    intro i hi
    rw [hayloftref10_Same.l0, if_neg (by omega)]
  | succ n ih =>
    intro i hi
    have hw : wrap64 ((i : Int) + 1) = ((i + 1 : Nat) : Int) := by rw [wrap_succ i (by omega)]; rfl
    rw [hayloftref10_Same.l0, if_pos (by omega), if_pos (Int.natCast_nonneg i), if_pos (by omega), hw, ih (i + 1) (by omega)]
    simp
theorem same_f (x : Ver) (hx : x.f1.length < 9223372036854775807) : hayloftref10_Same.f (x.f1.length + 2) x.f0.f0 x.f0.f1 x.f1 x.f2 x.f0.f0 x.f0.f1 x.f1 x.f2 = some true := by
  unfold hayloftref10_Same.f
  rw [if_neg (by simp), if_pos rfl, hayloftref10_Same.j0, if_neg (by simp)]
  exact same_l0 x.f1 hx _ _ _ _ _ _ x.f1.length 0 (by omega)
theorem sameAll_l0 (L : List Ver) (hL : L.length < 9223372036854775807) (F : Nat) (hF : ∀ x ∈ L, x.f1.length + 2 ≤ F) (hr : ∀ x ∈ L, x.f1.length < 9223372036854775807) : ∀ (n i : Nat), i + n = L.length → hayloftref10_SameAll.l0 (F + n + 1) L L i = some true := by
  intro n
  induction n with
  | zero =>
    intro i hi
    rw [hayloftref10_SameAll.l0, if_neg (by omega)]
  | succ n ih =>
    intro i hi
    have hw : wrap64 ((i : Int) + 1) = ((i + 1 : Nat) : Int) := by rw [wrap_succ i (by omega)]; rfl
    have hm : rd_T34 L (i : Int) ∈ L := getD_mem z34 (by omega : i < L.length)
    rw [hayloftref10_SameAll.l0, if_pos (by omega), if_pos (Int.natCast_nonneg i), if_pos (by omega), hw]
    generalize rd_T34 L (i : Int) = x at hm
    have hx := same_f x (hr x hm)
    have hx' := lift' (f := fun k => hayloftref10_Same.f k x.f0.f0 x.f0.f1 x.f1 x.f2 x.f0.f0 x.f0.f1 x.f1 x.f2) (fun k => hayloftref10_Same.mono _ _ _ _ _ _ _ _ k) hx (m := F + (n + 1)) (by have := hF x hm; omega)
    rw [show hayloftref10_Same.f (F + (n + 1)) x.f0.f0 x.f0.f1 x.f1 x.f2 x.f0.f0 x.f0.f1 x.f1 x.f2 = some true from hx', Option.bind_some, if_pos rfl]
    rw [show F + (n + 1) = F + n + 1 by omega]
    exact ih (i + 1) (by omega)
theorem row_bound : ∀ L : List Ver, ∃ F, ∀ x ∈ L, x.f1.length + 2 ≤ F
  | [] => ⟨0, fun x h => by simp at h⟩
  | a :: L => by
    obtain ⟨F, h⟩ := row_bound L
    exact ⟨F + (a.f1.length + 2), fun x hx => by
      rcases List.mem_cons.1 hx with rfl | hx
      · omega
      · have := h x hx; omega⟩
/-- From some fuel on. -/
theorem sameAll_f (L : List Ver) (hL : L.length < 9223372036854775807) (hr : ∀ x ∈ L, x.f1.length < 9223372036854775807) : ∃ K, ∀ k, K ≤ k → hayloftref10_SameAll.f k L L = some true := by
  obtain ⟨F, hF⟩ := row_bound L
  refine ⟨F + L.length + 1, fun k hk => ?_⟩
  refine lift' (f := fun k => hayloftref10_SameAll.f k L L) (fun k => hayloftref10_SameAll.mono _ _ k) (k := F + L.length + 1) ?_ hk
  show hayloftref10_SameAll.f _ L L = _
  unfold hayloftref10_SameAll.f
  rw [if_pos rfl]
  exact sameAll_l0 L hL F hF hr L.length 0 (by omega)
/-- The rows of what is told are rows that were given. -/
theorem told_row {F : Nm → Option Ver} {L : List Ver} (h : IsTold F L) {p : Ver → Prop} (hp : ∀ k x, F k = some x → p x) : ∀ x ∈ L, p x := fun x hx => hp _ x (h.2.1 x hx).2
theorem uptoF_row (l : List Ver) (ep : Int) (k : Nm) (x : Ver) (h : uptoF l ep k = some x) : ∃ y ∈ l, x.f1 = y.f1 := by
  unfold uptoF at h
  split at h
  · cases h
  · obtain ⟨y, hy, rfl⟩ := Option.map_eq_some_iff.1 h
    exact ⟨y, firstOf_mem l k y hy, asOf_f1 ep y⟩
theorem toldL_len (F : Nm → Option Ver) (ks : List Nm) : (toldL F ks).length ≤ (nmsL ks).length := List.length_filterMap_le _ _
end Go.Proofs.Ytfepfpcilmaojaa.QV
