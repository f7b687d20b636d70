/- hayloftref02.SameAll of rows and themselves; hayloftlaw15.copied tells the rows; hayloftref15.Join tells joinL. -/
import Derived.Test.YtghblnldokpceaaQRow
import Derived.Test.YtghblnldokpceaaJoin
import Derived.Test.YtghblnldokpceaaQVx10
import Derived.Test.YtghblnldokpceaaQVx11
import Derived.Test.YtghblnldokpceaaQVx3
namespace Go.Proofs.Ytghblnldokpceaa.QV
open Go.RowKit Go.Proofs.YtghblnldokpceaaW.PrintWords Go.Proofs.Ytghblnldokpceaa.Op
set_option linter.unusedVariables false
set_option linter.unusedSimpArgs false
theorem same_row (a b : List S') (hm : a.length ≤ 9223372036854775807) : Ev (fun k => hayloftref02_SameRow.f k a b) (eqRow a b) := by
  unfold hayloftref02_SameRow.f
  by_cases h : a.length = b.length
  · simp only [if_pos (show (a.length : Int) = (b.length : Int) from by omega)]
    exact same_loop a b hm a.length 0 (by omega) h
  · simp only [if_neg (show ¬ (a.length : Int) = (b.length : Int) from by omega)]
    rw [eqRow_len h]
    exact Ev.now _
def eqRows : List Row → List Row → Bool
  | [], [] => true
  | x :: xs, y :: ys => eqRow x y && eqRows xs ys
  | _, _ => false
theorem eqRows_iff : ∀ {a b : List Row}, eqRows a b = true ↔ a = b
  | [], [] => by simp [eqRows]
  | [], _ :: _ => by simp [eqRows]
  | _ :: _, [] => by simp [eqRows]
  | x :: xs, y :: ys => by rw [eqRows, Bool.and_eq_true, eqRow_iff, eqRows_iff]; simp
theorem eqRows_len {a b : List Row} (h : a.length ≠ b.length) : eqRows a b = false := by
  rw [← Bool.not_eq_true, eqRows_iff]
  rintro rfl
  exact h rfl
theorem getD_mem {α : Type} (z : α) {a : List α} {i : Nat} (h : i < a.length) : a.getD i z ∈ a := by
  rw [List.getD_eq_getElem?_getD, List.getElem?_eq_getElem h]; exact List.getElem_mem h
theorem all_loop (a b : List Row) (hm : a.length ≤ 9223372036854775807) (hx : ∀ x ∈ a, x.length ≤ 9223372036854775807) : ∀ (d i : Nat), i + d = a.length → a.length = b.length → Ev (fun k => hayloftref02_SameAll.l0 k a b (i : Int)) (eqRows (a.drop i) (b.drop i)) := by
  intro d
  induction d with
  | zero =>
    intro i hi hl
    rw [List.drop_of_length_le (by omega), List.drop_of_length_le (by omega)]
    refine Ev.step (f := fun _ => some true) (fun k => ?_) (Ev.now _)
    simp only [hayloftref02_SameAll.l0]
    rw [if_neg (by omega)]
  | succ d ih =>
    intro i hi hl
    have hw : wrap64 ((i : Int) + 1) = ((i + 1 : Nat) : Int) := by unfold wrap64; omega
    have hra : rd_L4 a (i : Int) = a.getD i [] := rfl
    have hrb : rd_L4 b (i : Int) = b.getD i [] := rfl
    have hih := ih (i + 1) (by omega) hl
    have hxa := hx _ (getD_mem [] (show i < a.length by omega))
    rw [drop_get [] a i (by omega), drop_get [] b i (by omega), eqRows]
    generalize a.getD i [] = x at hra hxa
    generalize b.getD i [] = y at hrb
    have hsr := same_row x y hxa
    refine Ev.step (f := fun k => (hayloftref02_SameRow.f k x y).bind fun t => if t = true then hayloftref02_SameAll.l0 k a b ((i + 1 : Nat) : Int) else some false) (fun k => ?_) ?_
    · simp only [hayloftref02_SameAll.l0, hra, hrb, hw]
      rw [if_pos (by omega), if_pos (by omega), if_pos (by omega)]
    · refine hsr.bind ?_
      cases he : eqRow x y
      · rw [Bool.false_and]
        simp only [Bool.false_eq_true, if_false]
        exact Ev.now _
      · rw [Bool.true_and]
        simp only [if_true]
        exact hih
theorem same_all (a b : List Row) (hm : a.length ≤ 9223372036854775807) (hx : ∀ x ∈ a, x.length ≤ 9223372036854775807) : Ev (fun k => hayloftref02_SameAll.f k a b) (eqRows a b) := by
  unfold hayloftref02_SameAll.f
  by_cases h : a.length = b.length
  · simp only [if_pos (show (a.length : Int) = (b.length : Int) from by omega)]
    exact all_loop a b hm hx a.length 0 (by omega) h
  · simp only [if_neg (show ¬ (a.length : Int) = (b.length : Int) from by omega)]
    rw [eqRows_len h]
    exact Ev.now _
theorem same_self (a : List Row) (hm : a.length ≤ 9223372036854775807) (hx : ∀ x ∈ a, x.length ≤ 9223372036854775807) : ∃ k, hayloftref02_SameAll.f k a a = some true := by
  have h := same_all a a hm hx
  rw [eqRows_iff.2 rfl] at h
  exact h.rounds

theorem copied_loop (l : List Row) (hm : l.length ≤ 5864062014805) (hx : ∀ x ∈ l, x.length < 3518437208883) : ∀ (d i : Nat), i + d = l.length → Ev (fun k => hayloftlaw15_copied.l0 k l (l.take i) (l.length : Int) (i : Int)) l := by
  intro d
  induction d with
  | zero =>
    intro i hi
    refine Ev.step (f := fun _ => some l) (fun k => ?_) (Ev.now _)
    simp only [hayloftlaw15_copied.l0]
    rw [if_neg (by omega), List.take_of_length_le (by omega)]
  | succ d ih =>
    intro i hi
    have hw : wrap64 ((i : Int) + 1) = ((i + 1 : Nat) : Int) := by unfold wrap64; omega
    have hra : rd_L4 l (i : Int) = l.getD i [] := rfl
    have hts := take_snoc' ([] : Row) l i (by omega)
    have hxa := hx _ (getD_mem [] (show i < l.length by omega))
    refine Ev.step (fun k => ?_) (ih (i + 1) (by omega))
    simp only [hayloftlaw15_copied.l0, hra, hw, hayloftref02_Copy.f, Option.bind_some, List.nil_append, List.length_nil, Nat.zero_add]
    rw [if_pos (by omega), if_pos (by omega), if_pos (by omega), if_pos hxa, Option.bind_some, if_pos (by rw [List.length_take]; omega), hts]
theorem copied_f (l : List Row) (hm : l.length ≤ 5864062014805) (hx : ∀ x ∈ l, x.length < 3518437208883) : ∃ k, hayloftlaw15_copied.f k l = some l := by
  have h := copied_loop l hm hx l.length 0 (by omega)
  exact h.rounds

theorem refAt_f (l : Row) (n : Int) : hayloftref15_At.f l n = some ((atS l n).f0, (atS l n).f1, (atS l n).f2, (atS l n).f3) := by
  unfold hayloftref15_At.f atS
  by_cases h1 : n < 0
  · rw [if_pos h1, if_pos h1]
  · by_cases h2 : n ≥ (l.length : Int)
    · rw [if_neg h1, if_neg h1, if_pos h2, if_pos h2]
    · rw [if_neg h1, if_neg h1, if_neg h2, if_neg h2, if_pos (by omega), if_pos (by omega)]; rfl
def okJ (lo ro : Int) (x y : Row) : Bool := (atS x lo).f0 != 0 && ((atS y ro).f0 != 0 && decide (cmpV (toV (atS x lo)) (toV (atS y ro)) = 0))
theorem joinOne_ok (lo ro : Int) (right : List Row) (x : Row) : joinOne lo ro (right.filter (nzB ro)) x = (right.filter (okJ lo ro x)).map (x ++ ·) := by
  unfold joinOne
  by_cases h : (atS x lo).f0 = 0
  · rw [if_pos h]
    have : right.filter (okJ lo ro x) = [] := by
      rw [List.filter_eq_nil_iff]
      intro y _
      simp [okJ, h]
    rw [this, List.map_nil]
  · rw [if_neg h, List.filter_filter]
    congr 1
    refine List.filter_congr (fun y _ => ?_)
    simp [okJ, hitB, nzB, h, Bool.and_comm]

theorem rj_inner (left right : List Row) (lo ro : Int) (hL : ∀ x ∈ left, x.length ≤ 1048576) (hR : ∀ x ∈ right, x.length ≤ 1048576) (hm : left.length ≤ 9223372036854775806) (hn : right.length ≤ 9223372036854775806) (i : Nat) (hi : i < left.length) (T : List Row) :
    ∀ (d j : Nat) (acc : List Row), j + d = right.length → acc.length + d < 5864062014805 → (∀ acc', acc'.length ≤ acc.length + d → Ev (fun k => hayloftref15_Join.l0 k left right lo ro acc' ((i + 1 : Nat) : Int)) (acc' ++ T)) →
    Ev (fun k => hayloftref15_Join.l1 k left right lo ro acc (i : Int) (j : Int)) (acc ++ ((right.drop j).filter (okJ lo ro (left.getD i []))).map (left.getD i [] ++ ·) ++ T) := by
  intro d
  induction d with
  | zero =>
    intro j acc hj ha hT
    rw [List.drop_of_length_le (by omega), List.filter_nil, List.map_nil, List.append_nil]
    have hw : wrap64 ((i : Int) + 1) = ((i + 1 : Nat) : Int) := by unfold wrap64; omega
    refine Ev.step (fun k => ?_) (hT acc (by omega))
    simp only [hayloftref15_Join.l1, hw]
    rw [if_neg (by omega)]
  | succ d ih =>
    intro j acc hj ha hT
    have hw : wrap64 ((j : Int) + 1) = ((j + 1 : Nat) : Int) := by unfold wrap64; omega
    have hra : rd_L4 left (i : Int) = left.getD i [] := rfl
    have hrb : rd_L4 right (j : Int) = right.getD j [] := rfl
    have hxa := hL _ (getD_mem [] hi)
    have hxb := hR _ (getD_mem [] (show j < right.length by omega))
    have hih := fun acc' (h : acc'.length ≤ acc.length + 1) => ih (j + 1) acc' (by omega) (by omega) (fun a h' => hT a (by omega))
    rw [drop_get [] right j (by omega), List.filter_cons]
    generalize left.getD i [] = x at *
    generalize right.getD j [] = y at *
    have hax := refAt_f x lo
    have hay := refAt_f y ro
    have hcv : hayloftref02_Compare.f (atS x lo).f0 (atS x lo).f1 (atS x lo).f2 (atS x lo).f3 (atS y ro).f0 (atS y ro).f1 (atS y ro).f2 (atS y ro).f3 = some (cmpV (toV (atS x lo)) (toV (atS y ro))) := rfl
    have hjn : hayloftref15_Joined.f x y = some (x ++ y) := by
      simp only [hayloftref15_Joined.f, Option.bind_some, List.nil_append, List.length_nil, Nat.zero_add]
      rw [if_pos (by omega)]
      first | (rw [if_pos (by omega)]) | (rw [Option.bind_some, if_pos (by omega)])
    have hl1 : ∀ k, hayloftref15_Join.l1 (k + 1) left right lo ro acc (i : Int) (j : Int) = if okJ lo ro x y = true then hayloftref15_Join.l1 k left right lo ro (acc ++ [x ++ y]) (i : Int) ((j + 1 : Nat) : Int) else hayloftref15_Join.l1 k left right lo ro acc (i : Int) ((j + 1 : Nat) : Int) := by
      intro k
      rw [hayloftref15_Join.l1, if_pos (by omega), if_pos (by omega), if_pos (by omega), hra, hax]
      simp only [Option.bind_some]
      rw [if_pos (by omega), hrb, hay]
      simp only [Option.bind_some, hw, hcv, hjn, Option.bind_some]
      unfold okJ
      by_cases h1 : (atS x lo).f0 = 0
      · simp [h1]
      · by_cases h2 : (atS y ro).f0 = 0
        · simp [h1, h2]
        · by_cases h3 : cmpV (toV (atS x lo)) (toV (atS y ro)) = 0
          · rw [if_neg h1, if_neg h2, if_pos h3, if_pos (by omega), if_pos (by simp [h1, h2, h3])]
          · rw [if_neg h1, if_neg h2, if_neg h3, if_neg (by simp [h3])]
    cases hok : okJ lo ro x y
    · simp only [Bool.false_eq_true, if_false]
      exact Ev.step (fun k => by rw [hl1, hok]; rfl) (hih acc (by omega))
    · simp only [if_true]
      have h2 := hih (acc ++ [x ++ y]) (by simp)
      simp only [List.map_cons, List.append_assoc, List.cons_append, List.nil_append] at h2 ⊢
      exact Ev.step (fun k => by rw [hl1, hok]; rfl) h2
theorem rj_outer (left right : List Row) (lo ro : Int) (hL : ∀ x ∈ left, x.length ≤ 1048576) (hR : ∀ x ∈ right, x.length ≤ 1048576) (hm : left.length ≤ 9223372036854775806) (hn : right.length ≤ 9223372036854775806) :
    ∀ (d i : Nat) (acc : List Row), i + d = left.length → acc.length + d * right.length < 5864062014805 → Ev (fun k => hayloftref15_Join.l0 k left right lo ro acc (i : Int)) (acc ++ (left.drop i).flatMap (fun x => (right.filter (okJ lo ro x)).map (x ++ ·))) := by
  intro d
  induction d with
  | zero =>
    intro i acc hi ha
    rw [List.drop_of_length_le (by omega), List.flatMap_nil, List.append_nil]
    refine Ev.step (f := fun _ => some acc) (fun k => ?_) (Ev.now _)
    simp only [hayloftref15_Join.l0]
    rw [if_neg (by omega)]
  | succ d ih =>
    intro i acc hi ha
    rw [Nat.succ_mul] at ha
    have h := rj_inner left right lo ro hL hR hm hn i (by omega) ((left.drop (i + 1)).flatMap (fun x => (right.filter (okJ lo ro x)).map (x ++ ·))) right.length 0 acc (by omega) (by omega) (fun acc' h => ih (i + 1) acc' (by omega) (by omega))
    rw [drop_get [] left i (by omega), List.flatMap_cons, ← List.append_assoc]
    refine Ev.step (fun k => ?_) h
    rw [hayloftref15_Join.l0, if_pos (by omega)]
    rfl
theorem refJoin_f (left right : List Row) (lo ro : Int) (hL : ∀ x ∈ left, x.length ≤ 1048576) (hR : ∀ x ∈ right, x.length ≤ 1048576) (hm : left.length ≤ 1000) (hn : right.length ≤ 1000) : ∃ k, hayloftref15_Join.f k left right lo ro = some (joinL left right lo ro) := by
  have hb : left.length * right.length ≤ 1000 * 1000 := Nat.mul_le_mul hm hn
  have h := rj_outer left right lo ro hL hR (by omega) (by omega) left.length 0 [] (by omega) (by simp; omega)
  have he : joinL left right lo ro = left.flatMap (fun x => (right.filter (okJ lo ro x)).map (x ++ ·)) := by
    unfold joinL
    congr 1
    funext x
    exact joinOne_ok lo ro right x
  rw [he]
  exact h.rounds
theorem joinL_len (left right : List Row) (lo ro : Int) : (joinL left right lo ro).length ≤ left.length * right.length := by
  have he : joinL left right lo ro = left.flatMap (fun x => (right.filter (okJ lo ro x)).map (x ++ ·)) := by
    unfold joinL
    congr 1
    funext x
    exact joinOne_ok lo ro right x
  rw [he]
  induction left with
  | nil => simp
  | cons x l ih =>
    rw [List.flatMap_cons, List.length_append, List.length_map, List.length_cons, Nat.succ_mul]
    have h1 := List.length_filter_le (okJ lo ro x) right
    have h2 := ih (by unfold joinL; congr 1; funext x; exact joinOne_ok lo ro right x)
    omega
theorem joinL_rows (left right : List Row) (lo ro : Int) (hL : ∀ x ∈ left, x.length ≤ 1048576) (hR : ∀ x ∈ right, x.length ≤ 1048576) : ∀ x ∈ joinL left right lo ro, x.length ≤ 2097152 := by
  intro x hx
  simp only [joinL, List.mem_flatMap, joinOne] at hx
  obtain ⟨a, ha, hx⟩ := hx
  split at hx
  · simp at hx
  · simp only [List.mem_map, List.mem_filter] at hx
    obtain ⟨b, ⟨⟨hb, _⟩, _⟩, rfl⟩ := hx
    have h1 := hL a ha
    have h2 := hR b hb
    simp only [List.length_append]
    omega
end Go.Proofs.Ytghblnldokpceaa.QV
