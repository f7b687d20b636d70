/- RecoverAgain: the plain law. -/
import Derived.Test.YtfepfpcilmaojaaLCatches
import Derived.Lib.AppendStr
namespace Go.Proofs.Ytfepfpcilmaojaa.QV
open Go.RowKit Go.Proofs.YtfepfpcilmaojaaW.PrintWords Go.Proofs.Ytfepfpcilmaojaa.Mp Go.Proofs.Ytfepfpcilmaojaa.SeqW
set_option linter.unusedVariables false
set_option linter.unusedSimpArgs false
theorem mergedF_nok (l m : List Ver) (hl : ∀ x ∈ l, Nok x.f0) (hm : ∀ x ∈ m, Nok x.f0) (k : Nm) (h : (mergedF l m k).isSome = true) : Nok k := by
  rcases List.mem_append.1 (mergedF_names l m k h) with hk | hk
  · obtain ⟨x, hx, rfl⟩ := List.mem_map.1 hk; exact hl x hx
  · obtain ⟨x, hx, rfl⟩ := List.mem_map.1 hk; exact hm x hx
theorem first_merged (l m : List Ver) (hl : ∀ x ∈ l, Nok x.f0) (hm : ∀ x ∈ m, Nok x.f0) : firstOf (mergedL l m) = mergedF l m := told_first (mergedL_is l m hl hm) (mergedF_f0 l m) (mergedF_nok l m hl hm)
theorem merged_nok (l m : List Ver) (hl : ∀ x ∈ l, Nok x.f0) (hm : ∀ x ∈ m, Nok x.f0) : ∀ x ∈ mergedL l m, Nok x.f0 := fun x hx => ((mergedL_is l m hl hm).2.1 x hx).1
/-- Changes that come twice. -/
theorem again_twice (h m : List Ver) (hh : ∀ x ∈ h, Nok x.f0) (hm : ∀ x ∈ m, Nok x.f0) : mergedL (mergedL h m) m = mergedL h m := by
  have e : mergedF (mergedL h m) m = mergedF h m := by
    funext k
    unfold mergedF
    rw [first_merged h m hh hm]
    unfold mergedF
    cases h1 : firstOf h k <;> cases h2 : firstOf m k <;> simp [mergeV]
    · rename_i x y; repeat (split <;> try simp_all)
  exact told_eq (e ▸ mergedL_is _ _ (merged_nok h m hh hm) hm) (mergedL_is h m hh hm)
/-- Changes in two orders. -/
theorem again_order (h m o : List Ver) (hh : ∀ x ∈ h, Nok x.f0) (hm : ∀ x ∈ m, Nok x.f0) (ho : ∀ x ∈ o, Nok x.f0) (hs : ∀ x ∈ m, ∀ y ∈ o, x.f0 = y.f0 → x = y) : mergedL (mergedL h m) o = mergedL (mergedL h o) m := by
  have e : mergedF (mergedL h m) o = mergedF (mergedL h o) m := by
    funext k
    unfold mergedF
    rw [first_merged h m hh hm, first_merged h o hh ho]
    unfold mergedF
    cases h1 : firstOf h k <;> cases h2 : firstOf m k <;> cases h3 : firstOf o k <;> simp [mergeV]
    · rename_i x y
      have := hs x (firstOf_mem m k x h2) y (firstOf_mem o k y h3) (by rw [firstOf_f0 m k x h2, firstOf_f0 o k y h3])
      subst this
      simp
    · rename_i z x y
      have := hs x (firstOf_mem m k x h2) y (firstOf_mem o k y h3) (by rw [firstOf_f0 m k x h2, firstOf_f0 o k y h3])
      subst this
      simp
  exact told_eq (e ▸ mergedL_is _ _ (merged_nok h m hh hm) ho) (mergedL_is _ _ (merged_nok h o hh ho) hm)
theorem ba_ext' {s t : ByteArray} (h : s.toList = t.toList) : s = t := by
  rw [Lib.toList_data, Lib.toList_data] at h
  cases s; cases t
  simpa using Array.toList_inj.1 h
/-- Same tells something, and yes of the same versions alone. -/
theorem same_l0' (l m : List Val) (hl : l.length < 9223372036854775807) (hlm : l.length = m.length) (a b c a' b' c' : Int) : ∀ (n i : Nat), i + n = l.length → ∃ r, hayloftref10_Same.l0 (n + 1) i a b l c a' b' m c' = some r ∧ (r = true → l.drop i = m.drop i) := by
  intro n
  induction n with
  | zero =>
    intro i hi
    rw [hayloftref10_Same.l0, if_neg (by omega)]
    refine ⟨true, rfl, fun _ => ?_⟩
    rw [List.drop_eq_nil_of_le (by omega), List.drop_eq_nil_of_le (by omega)]
  | succ n ih =>
    intro i hi
    have hil : i < l.length := by omega
    have him : i < m.length := by omega
    have hw : wrap64 ((i : Int) + 1) = ((i + 1 : Nat) : Int) := by rw [wrap_succ i (by omega)]; rfl
    have hg : rd_T36 l (i : Int) = l[i] := by show l.getD i _ = _; rw [List.getD_eq_getElem?_getD, List.getElem?_eq_getElem hil]; rfl
    have hg' : rd_T36 m (i : Int) = m[i] := by show m.getD i _ = _; rw [List.getD_eq_getElem?_getD, List.getElem?_eq_getElem him]; rfl
    rw [hayloftref10_Same.l0, if_pos (by omega), if_pos (Int.natCast_nonneg i), if_pos (by omega), hw, hg, hg']
    split
    · exact ⟨false, rfl, fun h => by cases h⟩
    · rename_i hne
      obtain ⟨r, h1, h2⟩ := ih (i + 1) (by omega)
      refine ⟨r, h1, fun hr => ?_⟩
      rw [List.drop_eq_getElem_cons hil, List.drop_eq_getElem_cons him, h2 hr]
      congr 1
      generalize l[i] = x at hne
      generalize m[i] = y at hne
      obtain ⟨x0, x1, x2, x3⟩ := x
      obtain ⟨y0, y1, y2, y3⟩ := y
      simp at hne
      obtain ⟨q0, q1, q2, q3⟩ := hne
      subst q0; subst q1; subst q2
      congr 1
      exact ba_ext' q3
theorem same_any (v u : Ver) (hv : v.f1.length < 9223372036854775807) : ∃ r, hayloftref10_Same.f (v.f1.length + 2) v.f0.f0 v.f0.f1 v.f1 v.f2 u.f0.f0 u.f0.f1 u.f1 u.f2 = some r ∧ (r = true → v = u) := by
  unfold hayloftref10_Same.f
  have hj : ∀ a b c a' b' c', hayloftref10_Same.j0 (v.f1.length + 2) true a b v.f1 c a' b' u.f1 c' = some false := fun a b c a' b' c' => by rw [hayloftref10_Same.j0, if_pos rfl]
  split
  · exact ⟨false, hj _ _ _ _ _ _, fun h => by cases h⟩
  · rename_i hn
    split
    · rename_i hd
      rw [hayloftref10_Same.j0]
      split
      · exact ⟨false, rfl, fun h => by cases h⟩
      · rename_i hl
        have hl' : v.f1.length = u.f1.length := by simp at hl; omega
        obtain ⟨r, h1, h2⟩ := same_l0' v.f1 u.f1 hv hl' v.f0.f0 v.f0.f1 v.f2 u.f0.f0 u.f0.f1 u.f2 v.f1.length 0 (by omega)
        refine ⟨r, h1, fun hr => ?_⟩
        have h3 := h2 hr
        rw [List.drop_zero, List.drop_zero] at h3
        obtain ⟨⟨n0, n1⟩, row, d⟩ := v
        obtain ⟨⟨m0, m1⟩, row', d'⟩ := u
        simp at hn hd h3
        obtain ⟨q0, q1⟩ := hn
        subst q0; subst q1; subst hd; subst h3
        rfl
    · exact ⟨false, hj _ _ _ _ _ _, fun h => by cases h⟩
end Go.Proofs.Ytfepfpcilmaojaa.QV
