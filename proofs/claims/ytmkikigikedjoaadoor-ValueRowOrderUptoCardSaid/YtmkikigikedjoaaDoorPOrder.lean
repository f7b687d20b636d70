/- The plain laws behind ValueOrder and ValueRowOrder. -/
import Derived.Test.YtmkikigikedjoaaDoorQVx2
import Derived.Test.YtmkikigikedjoaaDoorQVx3
import Derived.Test.YtmkikigikedjoaaDoorTotal
import Derived.Test.YtmkikigikedjoaaDoorQRow
namespace Go.Proofs.YtmkikigikedjoaaDoor.QV
open Go.RowKit Go.Proofs.YtmkikigikedjoaaDoorW.PrintWords Go.Proofs.YtmkikigikedjoaaDoor.Op
set_option linter.unusedVariables false
set_option linter.unusedSimpArgs false

theorem rows_xy (x y z : V) : rowsV [x, y] [x, z] = cmpV y z := by
  rw [rowsV, if_pos (cmpV_self x), rowsV, rowsV]
  split <;> omega
theorem rows_x (x z : V) : rowsV [x] [x, z] = -1 := by rw [rowsV, if_pos (cmpV_self x), rowsV]
theorem wrap_neg {n : Int} (h : -1 ≤ n ∧ n ≤ 1) : wrap64 (-n) = -n := by unfold wrap64; omega
theorem zero_eq (x y : V) (h : rightV x = true) (h' : rightV y = true) : ((cmpV x y == 0) != eqVB x y) = false := by
  have := cmpV_zero h h'
  by_cases e : x = y
  · rw [eqVB_iff.2 e, beq_iff_eq.2 (this.2 e)]; rfl
  · have e1 : eqVB x y = false := by rw [← Bool.not_eq_true, eqVB_iff]; exact e
    have e2 : (cmpV x y == 0) = false := by rw [beq_eq_false_iff_ne]; exact fun h => e (this.1 h)
    rw [e1, e2]; rfl
theorem pureOrder (x y z : V) : ∃ k, hayloftlaw02_ValueOrder.f k x.k x.b x.i x.s y.k y.b y.i y.s z.k z.b z.i z.s = some true := by
  refine ⟨2, ?_⟩
  have e1 : value_Compare.f x.k x.b x.i x.s y.k y.b y.i y.s = some (cmpV x y) := rfl
  have e2 : value_Compare.f y.k y.b y.i y.s z.k z.b z.i z.s = some (cmpV y z) := rfl
  have e3 : value_Compare.f y.k y.b y.i y.s x.k x.b x.i x.s = some (cmpV y x) := rfl
  have e4 : value_Compare.f x.k x.b x.i x.s x.k x.b x.i x.s = some (cmpV x x) := rfl
  have e5 : value_Compare.f x.k x.b x.i x.s z.k z.b z.i z.s = some (cmpV x z) := rfl
  have e6 : hayloftlaw02_alive.f = some true := rfl
  have e7 : value_Right.f x.k x.b x.i x.s = some (rightV x) := rfl
  have e8 : value_Right.f y.k y.b y.i y.s = some (rightV y) := rfl
  have e9 : (x.k == y.k && (x.b == y.b && (x.i == y.i && (x.s.toList == y.s.toList)))) = eqVB x y := rfl
  have g1 : value_Rows.f [⟨x.k, x.b, x.i, x.s⟩, ⟨y.k, y.b, y.i, y.s⟩] [⟨x.k, x.b, x.i, x.s⟩, ⟨z.k, z.b, z.i, z.s⟩] = some (cmpV y z) := congrArg some (rows_xy x y z)
  have g2 : value_Rows.f [⟨x.k, x.b, x.i, x.s⟩] [⟨x.k, x.b, x.i, x.s⟩, ⟨z.k, z.b, z.i, z.s⟩] = some (-1) := congrArg some (rows_x x z)
  have hz := zero_eq x y
  have hs := cmpV_swap x y
  have hxx := cmpV_self x
  have ht := cmpV_trans x y z
  have hw := wrap_neg (cmpV_range x y)
  have hj1 : ∀ b, b = false → hayloftlaw02_ValueOrder.j1 1 (cmpV y z) b x.k x.b x.i x.s y.k y.b y.i y.s z.k z.b z.i z.s = some true := by
    rintro b rfl
    simp only [hayloftlaw02_ValueOrder.j1, g1, g2, Option.bind_some]
    rw [if_neg (by decide)]; rfl
  have hj0 : ∀ b, b = false → hayloftlaw02_ValueOrder.j0 2 (cmpV x y) (cmpV y z) b x.k x.b x.i x.s y.k y.b y.i y.s z.k z.b z.i z.s = some true := by
    rintro b rfl
    simp only [hayloftlaw02_ValueOrder.j0, e7, e8, e9, Option.bind_some]
    rw [if_neg (by decide)]
    by_cases h1 : rightV x = true
    · by_cases h2 : rightV y = true
      · rw [if_pos h1, if_pos h2]
        exact hj1 _ (hz h1 h2)
      · rw [if_pos h1, if_neg h2]
        exact hj1 _ rfl
    · rw [if_neg h1]
      exact hj1 _ rfl
  simp only [hayloftlaw02_ValueOrder.f, e1, e2, e3, e4, e5, e6, Option.bind_some, if_true]
  rw [hw, if_pos hs, if_pos hxx]
  by_cases h1 : cmpV x y ≤ 0
  · by_cases h2 : cmpV y z ≤ 0
    · rw [if_pos h1, if_pos h2]
      exact hj0 _ (decide_eq_false (by have := ht h1 h2; omega))
    · rw [if_pos h1, if_neg h2]; exact hj0 _ rfl
  · rw [if_neg h1]; exact hj0 _ rfl

/-! ### rows -/
theorem toV_eq (x y : S') : toV x = toV y ↔ x = y := by
  obtain ⟨a, b, c, d⟩ := x
  obtain ⟨a', b', c', d'⟩ := y
  simp [toV]
theorem map_toV_eq (a b : List S') : a.map toV = b.map toV ↔ a = b := by
  constructor
  · intro h
    induction a generalizing b with
    | nil => cases b with
      | nil => rfl
      | cons y b => simp at h
    | cons x a ih => cases b with
      | nil => simp at h
      | cons y b =>
        simp only [List.map_cons, List.cons.injEq] at h
        rw [(toV_eq x y).1 h.1, ih b h.2]
  · rintro rfl; rfl
theorem same_row (a b : List S') (hm : a.length ≤ 9223372036854775807) : Ev (fun k => hayloftref02_SameRow.f k a b) (eqRow a b) := by
  unfold hayloftref02_SameRow.f
  by_cases h : a.length = b.length
  · simp only [if_pos (show (a.length : Int) = (b.length : Int) from by omega)]
    exact same_loop a b hm a.length 0 (by omega) h
  · simp only [if_neg (show ¬ (a.length : Int) = (b.length : Int) from by omega)]
    rw [eqRow_len h]
    exact Ev.now _
/-- All of these rows' values are right. -/
def allRight (l : List S') : Bool := l.all fun x => rightV (toV x)
theorem rowsV_take (a : List S') (h : a ≠ []) : rowsV ((a.take (a.length - 1)).map toV) (a.map toV) = -1 := by
  have := List.dropLast_concat_getLast h
  rw [← List.dropLast_eq_take]
  conv => lhs; rhs; rw [← this]
  rw [List.map_append]
  exact rowsV_init _ _
theorem rowOrder_end (a b : List S') (n : Int) (c : Bool) (r : Bool) (y : List S') (hn : n = rowsV (a.map toV) (b.map toV)) (ha : a.length ≤ 3518437208883) (hr : r = true → allRight a = true ∧ allRight b = true) (i : Int) (hi : ¬ i < (y.length : Int)) :
    Ev (fun k => hayloftlaw02_ValueRowOrder.l0 k a b n r y (y.length : Int) i) true := by
  have htail : (if (a.length : Int) = 0 then (some true) else (if 0 ≤ (wrap64 ((a.length : Int) - 1)) then (if (wrap64 ((a.length : Int) - 1)) ≤ (a.length : Int) then ((value_Rows.f (a.take ((wrap64 ((a.length : Int) - 1)) : Int).toNat) a).bind fun t151 => (some (t151 == (-1)))) else (none)) else (none))) = some true := by
    by_cases h0 : (a.length : Int) = 0
    · rw [if_pos h0]
    · have hw : wrap64 ((a.length : Int) - 1) = ((a.length - 1 : Nat) : Int) := by unfold wrap64; omega
      rw [if_neg h0, hw, if_pos (by omega), if_pos (by omega), Int.toNat_natCast]
      have : value_Rows.f (a.take (a.length - 1)) a = some (-1) := congrArg some (rowsV_take a (by intro h; subst h; simp at h0))
      rw [this]; rfl
  cases hc : r
  · refine Ev.step (f := fun _ => some true) (fun k => ?_) (Ev.now _)
    simp only [hayloftlaw02_ValueRowOrder.l0]
    rw [if_neg hi, if_neg (by decide)]
    exact htail
  · obtain ⟨h1, h2⟩ := hr hc
    have hz := rowsV_zero (a.map toV) (b.map toV) (fun x hx => by
      obtain ⟨y, hy, rfl⟩ := List.mem_map.1 hx
      exact List.all_eq_true.1 h1 y hy) (fun x hx => by
      obtain ⟨y, hy, rfl⟩ := List.mem_map.1 hx
      exact List.all_eq_true.1 h2 y hy)
    rw [map_toV_eq, ← hn] at hz
    have hne : ((n == 0) != eqRow a b) = false := by
      by_cases e : a = b
      · rw [eqRow_iff.2 e, beq_iff_eq.2 (hz.2 e)]; rfl
      · have e1 : eqRow a b = false := by rw [← Bool.not_eq_true, eqRow_iff]; exact e
        have e2 : (n == 0) = false := by rw [beq_eq_false_iff_ne]; exact fun h => e (hz.1 h)
        rw [e1, e2]; rfl
    refine Ev.step (f := fun k => (hayloftref02_SameRow.f k a b).bind fun t => if ((n == 0) != t) = true then some false else some true) (fun k => ?_) ?_
    · simp only [hayloftlaw02_ValueRowOrder.l0]
      rw [if_neg hi, if_pos trivial, htail]
    · refine Ev.bind (f := fun _ t => if ((n == 0) != t) = true then some false else some true) (same_row a b (by omega)) ?_
      simp only [hne]
      exact Ev.now _
theorem rowOrder_loop (a b : List S') (n : Int) (hn : n = rowsV (a.map toV) (b.map toV)) (ha : a.length ≤ 3518437208883) (y : List S') (hy : y = a ++ b) (hl : y.length ≤ 3518437208883) :
    ∀ (d i : Nat), i + d = y.length → ∀ r, (r = true → ∀ j, j < i → rightV (toV (y.getD j z23)) = true) → Ev (fun k => hayloftlaw02_ValueRowOrder.l0 k a b n r y (y.length : Int) (i : Int)) true := by
  intro d
  induction d with
  | zero =>
    intro i hi r hr
    refine rowOrder_end a b n true r y hn ha (fun h => ?_) (i : Int) (by omega)
    have hall := hr h
    have : allRight (a ++ b) = true := by
      rw [← hy]
      refine List.all_eq_true.2 fun x hx => ?_
      obtain ⟨j, hj, rfl⟩ := List.mem_iff_getElem.1 hx
      have := hall j (by omega)
      rw [List.getD_eq_getElem?_getD, List.getElem?_eq_getElem hj] at this
      exact this
    unfold allRight at this ⊢
    rw [List.all_append, Bool.and_eq_true] at this
    exact this
  | succ d ih =>
    intro i hi r hr
    have hw : wrap64 ((i : Int) + 1) = ((i + 1 : Nat) : Int) := by unfold wrap64; omega
    have hx : rd_T23 y (i : Int) = y.getD i z23 := rfl
    have hf : hayloftref02_Right.f (y.getD i z23).f0 (y.getD i z23).f1 (y.getD i z23).f2 (y.getD i z23).f3 = some (rightV (toV (y.getD i z23))) := rfl
    cases hc : r
    · refine Ev.step (fun k => ?_) (ih (i + 1) (by omega) false (fun h => by cases h))
      simp only [hayloftlaw02_ValueRowOrder.l0]
      rw [if_pos (by omega), if_pos (by omega), if_pos (by omega), if_neg (by decide), hw]
    · refine Ev.step (fun k => ?_) (ih (i + 1) (by omega) (rightV (toV (y.getD i z23))) (fun h j hj => ?_))
      · simp only [hayloftlaw02_ValueRowOrder.l0]
        rw [if_pos (by omega), if_pos (by omega), if_pos (by omega), if_pos trivial, hx, hf, hw]
        rfl
      · rcases Nat.lt_or_ge j i with hji | hji
        · exact hr hc j hji
        · obtain rfl : j = i := by omega
          exact h
theorem pureRowOrder (a b c : List S') (hl : a.length + b.length < 3518437208883) : ∃ k, hayloftlaw02_ValueRowOrder.f k a b c = some true := by
  refine Ev.rounds ?_
  have e1 : value_Rows.f a b = some (rowsV (a.map toV) (b.map toV)) := rfl
  have e2 : value_Rows.f b c = some (rowsV (b.map toV) (c.map toV)) := rfl
  have e3 : value_Rows.f b a = some (-rowsV (a.map toV) (b.map toV)) := congrArg some (rowsV_swap _ _)
  have e4 : value_Rows.f a a = some 0 := congrArg some (rowsV_self _)
  have e5 : value_Rows.f a c = some (rowsV (a.map toV) (c.map toV)) := rfl
  have e6 : hayloftlaw02_alive.f = some true := rfl
  have ht := rowsV_trans (a.map toV) (b.map toV) (c.map toV)
  have hr := rowsV_range (a.map toV) (b.map toV)
  have hlp := rowOrder_loop a b (rowsV (a.map toV) (b.map toV)) rfl (by omega) (a ++ b) rfl (by rw [List.length_append]; omega) (a ++ b).length 0 (by omega) true (fun _ j hj => absurd hj (by omega))
  generalize rowsV (a.map toV) (b.map toV) = n at e1 e3 ht hr hlp
  have hw := wrap_neg hr
  have hj0 : ∀ x, x = false → Ev (fun k => hayloftlaw02_ValueRowOrder.j0 k a b n x) true := by
    rintro x rfl
    refine Ev.step (fun k => ?_) hlp
    simp only [hayloftlaw02_ValueRowOrder.j0, Option.bind_some, List.nil_append, List.length_nil, Nat.zero_add]
    rw [if_neg (by decide), if_pos (by omega), if_pos (by omega)]
    rfl
  simp only [hayloftlaw02_ValueRowOrder.f, e1, e2, e3, e4, e5, e6, Option.bind_some, if_true, hw]
  by_cases h1 : n ≤ 0
  · by_cases h2 : rowsV (b.map toV) (c.map toV) ≤ 0
    · simp only [if_pos h1, if_pos h2]
      exact hj0 _ (decide_eq_false (by have := ht h1 h2; omega))
    · simp only [if_pos h1, if_neg h2]; exact hj0 _ rfl
  · simp only [if_neg h1]; exact hj0 _ rfl
end Go.Proofs.YtmkikigikedjoaaDoor.QV
