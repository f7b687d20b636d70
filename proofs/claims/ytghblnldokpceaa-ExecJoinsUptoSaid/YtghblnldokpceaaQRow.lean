/- What hayloftref02.SameRow tells, as printed. -/
import Derived.Test.YtghblnldokpceaaQVx10
import Derived.Test.YtghblnldokpceaaRowsV
namespace Go.Proofs.Ytghblnldokpceaa.QV
open Go.RowKit Go.Proofs.YtghblnldokpceaaW.PrintWords Go.Proofs.Ytghblnldokpceaa.Op
set_option linter.unusedVariables false
set_option linter.unusedSimpArgs false
abbrev S' := S42
abbrev z' : S' := z42
theorem ba_ext' {s t : ByteArray} (h : s.toList = t.toList) : s = t := by
  rw [Lib.toList_data, Lib.toList_data] at h
  cases s; cases t
  simpa using Array.toList_inj.1 h
def eqS (x y : S') : Bool := x.f0 == y.f0 && (x.f1 == y.f1 && (x.f2 == y.f2 && x.f3.toList == y.f3.toList))
theorem eqS_iff {x y : S'} : eqS x y = true ↔ x = y := by
  obtain ⟨a, b, c, d⟩ := x
  obtain ⟨a', b', c', d'⟩ := y
  unfold eqS
  constructor
  · intro h
    simp only [Bool.and_eq_true, beq_iff_eq] at h
    rw [h.1, h.2.1, h.2.2.1, ba_ext' h.2.2.2]
  · intro h
    cases h
    simp
def eqRow : List S' → List S' → Bool
  | [], [] => true
  | x :: xs, y :: ys => eqS x y && eqRow xs ys
  | _, _ => false
theorem eqRow_iff : ∀ {a b : List S'}, eqRow a b = true ↔ a = b
  | [], [] => by simp [eqRow]
  | [], _ :: _ => by simp [eqRow]
  | _ :: _, [] => by simp [eqRow]
  | x :: xs, y :: ys => by rw [eqRow, Bool.and_eq_true, eqS_iff, eqRow_iff]; simp
theorem eqRow_len {a b : List S'} (h : a.length ≠ b.length) : eqRow a b = false := by
  rw [← Bool.not_eq_true, eqRow_iff]
  rintro rfl
  exact h rfl
theorem drop_get {α : Type} (z : α) (a : List α) (i : Nat) (h : i < a.length) : a.drop i = a.getD i z :: a.drop (i + 1) := by
  rw [List.drop_eq_getElem_cons h, List.getD_eq_getElem?_getD, List.getElem?_eq_getElem h]; rfl
theorem same_loop (a b : List S') (hm : a.length ≤ 9223372036854775807) : ∀ (d i : Nat), i + d = a.length → a.length = b.length → Ev (fun k => hayloftref02_SameRow.l0 k a b (i : Int)) (eqRow (a.drop i) (b.drop i)) := by
  intro d
  induction d with
  | zero =>
    intro i hi hl
    rw [List.drop_of_length_le (by omega), List.drop_of_length_le (by omega)]
    refine Ev.step (f := fun _ => some true) (fun k => ?_) (Ev.now _)
    simp only [hayloftref02_SameRow.l0]
    rw [if_neg (by omega)]
  | succ d ih =>
    intro i hi hl
    have hw : wrap64 ((i : Int) + 1) = ((i + 1 : Nat) : Int) := by unfold wrap64; omega
    have hra : rd_T42 a (i : Int) = a.getD i z' := rfl
    have hrb : rd_T42 b (i : Int) = b.getD i z' := rfl
    have hih := ih (i + 1) (by omega) hl
    rw [drop_get z' a i (by omega), drop_get z' b i (by omega), eqRow]
    generalize a.getD i z' = x at hra
    generalize b.getD i z' = y at hrb
    have hne : (!(x.f0 == y.f0) || (!(x.f1 == y.f1) || (!(x.f2 == y.f2) || (!(x.f3.toList == y.f3.toList))))) = !eqS x y := by
      simp [eqS]
    cases he : eqS x y
    · rw [Bool.false_and]
      refine Ev.step (f := fun _ => some false) (fun k => ?_) (Ev.now _)
      simp only [hayloftref02_SameRow.l0, hra, hrb, hne, he]
      rw [if_pos (by omega), if_pos (by omega), if_pos (by omega), if_pos (by decide)]
    · rw [Bool.true_and]
      refine Ev.step (fun k => ?_) hih
      simp only [hayloftref02_SameRow.l0, hra, hrb, hne, he]
      rw [if_pos (by omega), if_pos (by omega), if_pos (by omega), if_neg (by decide), hw]
end Go.Proofs.Ytghblnldokpceaa.QV
