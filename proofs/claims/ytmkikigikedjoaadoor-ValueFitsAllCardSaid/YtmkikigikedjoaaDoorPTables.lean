/- The plain laws behind ValueTables and ValueFitsAll. -/
import Derived.Test.YtmkikigikedjoaaDoorQVx7
import Derived.Test.YtmkikigikedjoaaDoorQVx8
import Derived.Test.YtmkikigikedjoaaDoorQRow
namespace Go.Proofs.YtmkikigikedjoaaDoor.QV
open Go.RowKit Go.Proofs.YtmkikigikedjoaaDoorW.PrintWords Go.Proofs.YtmkikigikedjoaaDoor.Op
set_option linter.unusedVariables false
set_option linter.unusedSimpArgs false
abbrev C' := S28
abbrev zc' : C' := z28

def namedB (s : ByteArray) : Bool := decide (1 ≤ s.size) && decide (s.size ≤ 64)
theorem named1 (s : ByteArray) : value_named.f s = some (namedB s) := by
  unfold value_named.f namedB
  by_cases h : 1 ≤ s.size
  · rw [if_pos (by omega), decide_eq_true h, Bool.true_and]
    congr 1
    rw [decide_eq_decide]; omega
  · rw [if_neg (by omega), decide_eq_false h]; rfl
theorem named2 (s : ByteArray) : hayloftref02_named.f s = some (namedB s) := by
  unfold hayloftref02_named.f namedB
  by_cases h : 1 ≤ s.size
  · rw [if_pos (by omega), decide_eq_true h, Bool.true_and]
    congr 1
    rw [decide_eq_decide]; omega
  · rw [if_neg (by omega), decide_eq_false h]; rfl
def badC (c : C') : Bool := !(namedB c.f0) || (decide (c.f1 < 1) || decide (c.f1 > 3))
def dupC (c x : C') : Bool := x.f0.toList == c.f0.toList
def colsE : List C' → List C' → Int
  | _, [] => 0
  | pre, c :: r => if badC c = true then 20 else if pre.any (dupC c) = true then 20 else colsE (pre ++ [c]) r
theorem colsE_two : ∀ (r pre : List C'), colsE pre r = 0 ∨ colsE pre r = 20
  | [], _ => .inl rfl
  | c :: r, pre => by
    rw [colsE]
    split
    · exact .inr rfl
    · split
      · exact .inr rfl
      · exact colsE_two r _
def tableE (n : ByteArray) (cols : List C') : Int := if namedB n = true ∧ 1 ≤ cols.length ∧ cols.length ≤ 8 then colsE [] cols else 20
theorem tableE_two (n : ByteArray) (cols : List C') : tableE n cols = 0 ∨ tableE n cols = 20 := by
  unfold tableE
  split
  · exact colsE_two _ _
  · exact .inr rfl
theorem take_step {α : Type} (z : α) (l : List α) (i : Nat) (h : i < l.length) : l.take (i + 1) = l.take i ++ [l.getD i z] := by
  rw [List.take_succ_eq_append_getElem h, List.getD_eq_getElem?_getD, List.getElem?_eq_getElem h]; rfl
theorem colsE_step (cols : List C') (i : Nat) (h : i < cols.length) : colsE (cols.take i) (cols.drop i) = if badC (cols.getD i zc') = true then 20 else if (cols.take i).any (dupC (cols.getD i zc')) = true then 20 else colsE (cols.take (i + 1)) (cols.drop (i + 1)) := by
  rw [drop_get zc' cols i h, colsE, take_step zc' cols i h]
theorem wrapN {i n : Nat} (h : i < n) (hn : n ≤ 9223372036854775807) : wrap64 ((i : Int) + 1) = ((i + 1 : Nat) : Int) := by unfold wrap64; omega

theorem table_inner (n : ByteArray) (cols : List C') (hm : cols.length ≤ 9223372036854775807) (i : Nat) (hi : i < cols.length) (c : C') (R : Int) (h : Ev (fun k => value_Table.l0 k cols (cols.length : Int) ((i + 1 : Nat) : Int) n cols) R) :
    ∀ (d j : Nat), j + d = i → Ev (fun k => value_Table.l1 k cols (cols.length : Int) (i : Int) (cols.take i) ((cols.take i).length : Int) (j : Int) n cols c.f0 c.f1 c.f2) (if ((cols.take i).drop j).any (dupC c) = true then 20 else R) := by
  have hl : (cols.take i).length = i := by rw [List.length_take]; omega
  intro d
  induction d with
  | zero =>
    intro j hj
    rw [List.drop_of_length_le (by omega), List.any_nil, if_neg (by decide)]
    refine Ev.step (fun k => ?_) h
    simp only [value_Table.l1]
    rw [if_neg (by omega), wrapN hi hm]
  | succ d ih =>
    intro j hj
    have hx : rd_T28 (cols.take i) (j : Int) = (cols.take i).getD j zc' := rfl
    have hih := ih (j + 1) (by omega)
    rw [drop_get zc' (cols.take i) j (by omega), List.any_cons]
    generalize (cols.take i).getD j zc' = x at hx
    by_cases e : x.f0.toList = c.f0.toList
    · have : dupC c x = true := beq_iff_eq.2 e
      rw [this, Bool.true_or, if_pos rfl]
      refine Ev.step (f := fun _ => some 20) (fun k => ?_) (Ev.now _)
      simp only [value_Table.l1, hx]
      rw [if_pos (by omega), if_pos (by omega), if_pos (by omega), if_pos e]
    · have : dupC c x = false := beq_eq_false_iff_ne.2 e
      rw [this, Bool.false_or]
      refine Ev.step (fun k => ?_) hih
      simp only [value_Table.l1, hx]
      rw [if_pos (by omega), if_pos (by omega), if_pos (by omega), if_neg e, wrapN (n := i) (by omega) (by omega)]
theorem table_loop (n : ByteArray) (cols : List C') (hm : cols.length ≤ 9223372036854775807) : ∀ (d i : Nat), i + d = cols.length → Ev (fun k => value_Table.l0 k cols (cols.length : Int) (i : Int) n cols) (colsE (cols.take i) (cols.drop i)) := by
  intro d
  induction d with
  | zero =>
    intro i hi
    rw [List.drop_of_length_le (by omega), colsE]
    refine Ev.step (f := fun _ => some 0) (fun k => ?_) (Ev.now _)
    simp only [value_Table.l0]
    rw [if_neg (by omega)]
  | succ d ih =>
    intro i hi
    have hin := table_inner n cols hm i (by omega) (cols.getD i zc') _ (ih (i + 1) (by omega)) i 0 (by omega)
    rw [List.drop_zero] at hin
    have hx : rd_T28 cols (i : Int) = cols.getD i zc' := rfl
    rw [colsE_step cols i (by omega)]
    generalize cols.getD i zc' = c at hin hx
    have hj2 : ∀ b, badC c = b → Ev (fun k => value_Table.j2 k (i : Int) cols (cols.length : Int) (i : Int) b n cols c.f0 c.f1 c.f2) (if badC c = true then 20 else if (cols.take i).any (dupC c) = true then 20 else colsE (cols.take (i + 1)) (cols.drop (i + 1))) := by
      rintro b rfl
      cases hb : badC c
      · rw [if_neg (by decide)]
        refine Ev.step (fun k => ?_) hin
        simp only [value_Table.j2, Option.bind_some, Int.toNat_natCast]
        rw [if_neg (by decide), if_pos (by omega), if_pos (by omega)]; rfl
      · rw [if_pos rfl]
        refine Ev.step (f := fun _ => some 20) (fun k => ?_) (Ev.now _)
        simp only [value_Table.j2]
        rw [if_pos trivial]
    refine Ev.step (fun k => ?_) (hj2 _ rfl)
    simp only [value_Table.l0, hx, named1, Option.bind_some]
    rw [if_pos (by omega), if_pos (by omega), if_pos (by omega)]
    unfold badC
    cases hn : namedB c.f0
    · rw [if_neg (by decide)]; rfl
    · rw [if_pos rfl]
      by_cases h1 : c.f1 < 1
      · rw [if_pos h1, decide_eq_true h1]; rfl
      · rw [if_neg h1, decide_eq_false h1]; rfl
theorem table_ev (n : ByteArray) (cols : List C') (hm : cols.length ≤ 9223372036854775807) : Ev (fun k => value_Table.f k n cols) (tableE n cols) := by
  have hl := table_loop n cols hm cols.length 0 (by omega)
  rw [List.take_zero, List.drop_zero] at hl
  have hj : ∀ b, Ev (fun k => value_Table.j0 k b n cols) (if b = true then 20 else colsE [] cols) := by
    intro b
    cases b
    · rw [if_neg (by decide)]
      refine Ev.step (fun k => ?_) hl
      simp only [value_Table.j0]
      rw [if_neg (by decide)]; rfl
    · rw [if_pos rfl]
      refine Ev.step (f := fun _ => some 20) (fun k => ?_) (Ev.now _)
      simp only [value_Table.j0]
      rw [if_pos trivial]
  unfold tableE
  simp only [value_Table.f, named1, Option.bind_some]
  cases hn : namedB n
  · simp only [Bool.false_eq_true, false_and, if_false]
    exact hj true
  · simp only [true_and, if_true]
    by_cases h1 : (cols.length : Int) < 1
    · simp only [if_pos h1]
      rw [if_neg (by omega)]
      exact hj true
    · simp only [if_neg h1]
      have := hj (decide ((cols.length : Int) > 8))
      by_cases h2 : (cols.length : Int) > 8
      · rw [decide_eq_true h2] at this ⊢
        rw [if_neg (by omega)]
        exact this
      · rw [decide_eq_false h2] at this ⊢
        rw [if_pos (by omega)]
        exact this

theorem rtable_inner (n : ByteArray) (cols : List C') (hm : cols.length ≤ 9223372036854775807) (i : Nat) (hi : i < cols.length) (R : Int) (h : Ev (fun k => hayloftref02_Table.l0 k ((i + 1 : Nat) : Int) n cols) R) :
    ∀ (d j : Nat), j + d = i → Ev (fun k => hayloftref02_Table.l1 k (i : Int) (j : Int) n cols) (if ((cols.take i).drop j).any (dupC (cols.getD i zc')) = true then 20 else R) := by
  have hl : (cols.take i).length = i := by rw [List.length_take]; omega
  intro d
  induction d with
  | zero =>
    intro j hj
    rw [List.drop_of_length_le (by omega), List.any_nil, if_neg (by decide)]
    refine Ev.step (fun k => ?_) h
    simp only [hayloftref02_Table.l1]
    rw [if_neg (by omega), wrapN hi hm]
  | succ d ih =>
    intro j hj
    have hx : rd_T28 cols (j : Int) = (cols.take i).getD j zc' := by
      show cols.getD j zc' = _
      rw [List.getD_eq_getElem?_getD, List.getD_eq_getElem?_getD, List.getElem?_take, if_pos (by omega)]
    have hc : rd_T28 cols (i : Int) = cols.getD i zc' := rfl
    have hih := ih (j + 1) (by omega)
    rw [drop_get zc' (cols.take i) j (by omega), List.any_cons]
    generalize (cols.take i).getD j zc' = x at hx
    generalize cols.getD i zc' = c at hc hih ⊢
    by_cases e : x.f0.toList = c.f0.toList
    · have : dupC c x = true := beq_iff_eq.2 e
      rw [this, Bool.true_or, if_pos rfl]
      refine Ev.step (f := fun _ => some 20) (fun k => ?_) (Ev.now _)
      simp only [hayloftref02_Table.l1, hx, hc]
      rw [if_pos (by omega), if_pos (by omega), if_pos (by omega), if_pos (by omega), if_pos (by omega), if_pos e]
    · have : dupC c x = false := beq_eq_false_iff_ne.2 e
      rw [this, Bool.false_or]
      refine Ev.step (fun k => ?_) hih
      simp only [hayloftref02_Table.l1, hx, hc]
      rw [if_pos (by omega), if_pos (by omega), if_pos (by omega), if_pos (by omega), if_pos (by omega), if_neg e, wrapN (n := i) (by omega) (by omega)]
theorem rtable_loop (n : ByteArray) (cols : List C') (hm : cols.length ≤ 9223372036854775807) : ∀ (d i : Nat), i + d = cols.length → Ev (fun k => hayloftref02_Table.l0 k (i : Int) n cols) (colsE (cols.take i) (cols.drop i)) := by
  intro d
  induction d with
  | zero =>
    intro i hi
    rw [List.drop_of_length_le (by omega), colsE]
    refine Ev.step (f := fun _ => some 0) (fun k => ?_) (Ev.now _)
    simp only [hayloftref02_Table.l0]
    rw [if_neg (by omega)]
  | succ d ih =>
    intro i hi
    have hin := rtable_inner n cols hm i (by omega) _ (ih (i + 1) (by omega)) i 0 (by omega)
    rw [List.drop_zero] at hin
    have hx : rd_T28 cols (i : Int) = cols.getD i zc' := rfl
    rw [colsE_step cols i (by omega)]
    generalize cols.getD i zc' = c at hin hx
    have hj2 : ∀ b, badC c = b → Ev (fun k => hayloftref02_Table.j2 k (i : Int) b n cols) (if badC c = true then 20 else if (cols.take i).any (dupC c) = true then 20 else colsE (cols.take (i + 1)) (cols.drop (i + 1))) := by
      rintro b rfl
      cases hb : badC c
      · rw [if_neg (by decide)]
        refine Ev.step (fun k => ?_) hin
        simp only [hayloftref02_Table.j2]
        rw [if_neg (by decide)]; rfl
      · rw [if_pos rfl]
        refine Ev.step (f := fun _ => some 20) (fun k => ?_) (Ev.now _)
        simp only [hayloftref02_Table.j2]
        rw [if_pos trivial]
    refine Ev.step (fun k => ?_) (hj2 _ rfl)
    simp only [hayloftref02_Table.l0, hx, named2, Option.bind_some]
    rw [if_pos (by omega), if_pos (by omega)]
    unfold badC
    cases hn : namedB c.f0
    · rw [if_neg (by decide)]; rfl
    · rw [if_pos rfl]
      by_cases h1 : c.f1 < 1
      · rw [if_pos h1, decide_eq_true h1]; rfl
      · rw [if_neg h1, decide_eq_false h1]; rfl
theorem rtable_ev (n : ByteArray) (cols : List C') (hm : cols.length ≤ 9223372036854775807) : Ev (fun k => hayloftref02_Table.f k n cols) (tableE n cols) := by
  have hl := rtable_loop n cols hm cols.length 0 (by omega)
  rw [List.take_zero, List.drop_zero] at hl
  have hj : ∀ b, Ev (fun k => hayloftref02_Table.j0 k b n cols) (if b = true then 20 else colsE [] cols) := by
    intro b
    cases b
    · rw [if_neg (by decide)]
      refine Ev.step (fun k => ?_) hl
      simp only [hayloftref02_Table.j0]
      rw [if_neg (by decide)]; rfl
    · rw [if_pos rfl]
      refine Ev.step (f := fun _ => some 20) (fun k => ?_) (Ev.now _)
      simp only [hayloftref02_Table.j0]
      rw [if_pos trivial]
  unfold tableE
  simp only [hayloftref02_Table.f, named2, Option.bind_some]
  cases hn : namedB n
  · simp only [Bool.false_eq_true, false_and, if_false]
    exact hj true
  · simp only [true_and, if_true]
    by_cases h1 : (cols.length : Int) = 0
    · simp only [if_pos h1]
      rw [if_neg (by omega)]
      exact hj true
    · simp only [if_neg h1]
      have := hj (decide ((cols.length : Int) > 8))
      by_cases h2 : (cols.length : Int) > 8
      · rw [decide_eq_true h2] at this ⊢
        rw [if_neg (by omega)]
        exact this
      · rw [decide_eq_false h2] at this ⊢
        rw [if_pos (by omega)]
        exact this

/-! ### rows of a table -/
def fitsS (c : C') (v : S') : Bool := fitsV ⟨c.f0, c.f1, c.f2⟩ ⟨v.f0, v.f1, v.f2, v.f3⟩
theorem fits1 (c : C') (v : S') : value_Fits.f c.f0 c.f1 c.f2 v.f0 v.f1 v.f2 v.f3 = some (fitsS c v) := rfl
theorem fits2 (c : C') (v : S') : hayloftref02_Fits.f c.f0 c.f1 c.f2 v.f0 v.f1 v.f2 v.f3 = some (fitsS c v) := rfl
def rowE : List C' → List S' → Int
  | c :: cs, v :: vs => if fitsS c v = true then rowE cs vs else 21
  | _, _ => 0
def rowT (n : ByteArray) (cols : List C') (row : List S') : Int := if tableE n cols = 0 then (if row.length = cols.length then rowE cols row else 21) else tableE n cols
theorem row_loop (n : ByteArray) (cols : List C') (row : List S') (hm : cols.length ≤ 9223372036854775807) (hl : row.length = cols.length) : ∀ (d i : Nat), i + d = cols.length → Ev (fun k => value_Row.l0 k row (row.length : Int) (i : Int) n cols) (rowE (cols.drop i) (row.drop i)) := by
  intro d
  induction d with
  | zero =>
    intro i hi
    rw [List.drop_of_length_le (by omega), rowE]
    · refine Ev.step (f := fun _ => some 0) (fun k => ?_) (Ev.now _)
      simp only [value_Row.l0]
      rw [if_neg (by omega)]
    · simp
  | succ d ih =>
    intro i hi
    have hx : rd_T28 cols (i : Int) = cols.getD i zc' := rfl
    have hy : rd_T23 row (i : Int) = row.getD i z' := rfl
    have hih := ih (i + 1) (by omega)
    rw [drop_get zc' cols i (by omega), drop_get z' row i (by omega), rowE]
    generalize cols.getD i zc' = c at hx
    generalize row.getD i z' = v at hy
    cases hf : fitsS c v
    · rw [if_neg (by decide)]
      refine Ev.step (f := fun _ => some 21) (fun k => ?_) (Ev.now _)
      simp only [value_Row.l0, hx, hy, fits1, hf, Option.bind_some]
      rw [if_pos (by omega), if_pos (by omega), if_pos (by omega), if_pos (by omega), if_neg (by decide)]
    · rw [if_pos rfl]
      refine Ev.step (fun k => ?_) hih
      simp only [value_Row.l0, hx, hy, fits1, hf, Option.bind_some]
      rw [if_pos (by omega), if_pos (by omega), if_pos (by omega), if_pos (by omega), if_pos trivial, wrapN (n := cols.length) (by omega) hm]
theorem row_ev (n : ByteArray) (cols : List C') (row : List S') (hm : cols.length ≤ 9223372036854775807) : Ev (fun k => value_Row.f k n cols row) (rowT n cols row) := by
  unfold value_Row.f rowT
  refine Ev.bind (f := fun k t => if t = 0 then (if (row.length : Int) = (cols.length : Int) then (value_Row.l0 k row (row.length : Int) 0 n cols) else (some 21)) else (some t)) (table_ev n cols hm) ?_
  by_cases h : tableE n cols = 0
  · simp only [if_pos h]
    by_cases hl : row.length = cols.length
    · simp only [if_pos hl, if_pos (show (row.length : Int) = (cols.length : Int) from by omega)]
      have := row_loop n cols row hm hl cols.length 0 (by omega)
      rw [List.drop_zero, List.drop_zero] at this
      exact this
    · simp only [if_neg hl, if_neg (show ¬ (row.length : Int) = (cols.length : Int) from by omega)]
      exact Ev.now _
  · simp only [if_neg h]
    exact Ev.now _
theorem rrow_loop (n : ByteArray) (cols : List C') (row : List S') (hm : cols.length ≤ 9223372036854775807) (hl : row.length = cols.length) : ∀ (d i : Nat), i + d = cols.length → Ev (fun k => hayloftref02_Row.l0 k row (i : Int) n cols) (rowE (cols.drop i) (row.drop i)) := by
  intro d
  induction d with
  | zero =>
    intro i hi
    rw [List.drop_of_length_le (by omega), rowE]
    · refine Ev.step (f := fun _ => some 0) (fun k => ?_) (Ev.now _)
      simp only [hayloftref02_Row.l0]
      rw [if_neg (by omega)]
    · simp
  | succ d ih =>
    intro i hi
    have hx : rd_T28 cols (i : Int) = cols.getD i zc' := rfl
    have hy : rd_T23 row (i : Int) = row.getD i z' := rfl
    have hih := ih (i + 1) (by omega)
    rw [drop_get zc' cols i (by omega), drop_get z' row i (by omega), rowE]
    generalize cols.getD i zc' = c at hx
    generalize row.getD i z' = v at hy
    cases hf : fitsS c v
    · rw [if_neg (by decide)]
      refine Ev.step (f := fun _ => some 21) (fun k => ?_) (Ev.now _)
      simp only [hayloftref02_Row.l0, hx, hy, fits2, hf, Option.bind_some]
      rw [if_pos (by omega), if_pos (by omega), if_pos (by omega), if_neg (by decide)]
    · rw [if_pos rfl]
      refine Ev.step (fun k => ?_) hih
      simp only [hayloftref02_Row.l0, hx, hy, fits2, hf, Option.bind_some]
      rw [if_pos (by omega), if_pos (by omega), if_pos (by omega), if_pos trivial, wrapN (n := cols.length) (by omega) hm]
theorem rrow_ev (n : ByteArray) (cols : List C') (row : List S') (hm : cols.length ≤ 9223372036854775807) : Ev (fun k => hayloftref02_Row.f k n cols row) (rowT n cols row) := by
  unfold hayloftref02_Row.f rowT
  refine Ev.bind (f := fun k t => if t = 0 then (if (row.length : Int) = (cols.length : Int) then (hayloftref02_Row.l0 k row 0 n cols) else (some 21)) else (some t)) (rtable_ev n cols hm) ?_
  by_cases h : tableE n cols = 0
  · simp only [if_pos h]
    by_cases hl : row.length = cols.length
    · simp only [if_pos hl, if_pos (show (row.length : Int) = (cols.length : Int) from by omega)]
      have := rrow_loop n cols row hm hl cols.length 0 (by omega)
      rw [List.drop_zero, List.drop_zero] at this
      exact this
    · simp only [if_neg hl, if_neg (show ¬ (row.length : Int) = (cols.length : Int) from by omega)]
      exact Ev.now _
  · simp only [if_neg h]
    exact Ev.now _
theorem alive_some : hayloftlaw02_alive.f = some true := rfl
theorem pureTables (n : ByteArray) (cols : List C') (row : List S') (hm : cols.length ≤ 9223372036854775807) : ∃ k, hayloftlaw02_ValueTables.f k n cols row = some true := by
  refine Ev.rounds ?_
  unfold hayloftlaw02_ValueTables.f
  simp only [alive_some, Option.bind_some, if_true]
  refine Ev.bind (f := fun k t189 => ((hayloftref02_Table.f k n cols).bind fun t190 => (if t189 = t190 then ((value_Row.f k n cols row).bind fun t191 => ((hayloftref02_Row.f k n cols row).bind fun t192 => (some (t191 == t192)))) else (some false)))) (table_ev n cols hm) ?_
  refine Ev.bind (f := fun k t190 => (if tableE n cols = t190 then ((value_Row.f k n cols row).bind fun t191 => ((hayloftref02_Row.f k n cols row).bind fun t192 => (some (t191 == t192)))) else (some false))) (rtable_ev n cols hm) ?_
  simp only [if_true]
  refine Ev.bind (f := fun k t191 => ((hayloftref02_Row.f k n cols row).bind fun t192 => (some (t191 == t192)))) (row_ev n cols row hm) ?_
  refine Ev.bind (f := fun k t192 => (some (rowT n cols row == t192))) (rrow_ev n cols row hm) ?_
  simp only [beq_self_eq_true]
  exact Ev.now _

/-! ### FitsAll -/
def fitAll : List C' → List S' → Bool
  | c :: cs, v :: vs => fitsS c v && fitAll cs vs
  | _, _ => true
theorem rowE_zero : ∀ (cs : List C') (vs : List S'), (rowE cs vs == 0) = fitAll cs vs
  | [], _ => by rw [rowE, fitAll]; rfl; all_goals simp
  | _ :: _, [] => by rw [rowE, fitAll]; rfl; all_goals simp
  | c :: cs, v :: vs => by
    rw [rowE, fitAll]
    cases fitsS c v
    · rfl
    · rw [if_pos rfl, rowE_zero, Bool.true_and]
theorem row_long (n : ByteArray) (cols : List C') (row : List S') (h0 : tableE n cols = 0) (hl : row.length ≠ cols.length) : rowT n cols row = 21 := by
  unfold rowT
  rw [if_pos h0, if_neg hl]
theorem fits_end (n : ByteArray) (cols : List C') (row : List S') (hm : cols.length ≤ 9223372036854775807) (h0 : tableE n cols = 0) (hr : row.length + 1 < 3518437208883) (i : Int) (hi : ¬ (i < (row.length : Int) ∧ i < (cols.length : Int))) (b : Bool) (hb : b = (decide (row.length = cols.length) && fitAll cols row)) :
    Ev (fun k => hayloftlaw02_ValueFitsAll.l0 k row b i n cols) true := by
  have hz : (rowT n cols row == 0) = b := by
    rw [hb]
    by_cases hl : row.length = cols.length
    · unfold rowT
      rw [if_pos h0, if_pos hl, rowE_zero, decide_eq_true hl, Bool.true_and]
    · rw [row_long n cols row h0 hl, decide_eq_false hl]; rfl
  have hmore : b = true → rowT n cols (row ++ [⟨0, false, 0, ⟨#[]⟩⟩]) = 21 := by
    intro h
    rw [hb, Bool.and_eq_true] at h
    have := of_decide_eq_true h.1
    exact row_long _ _ _ h0 (by rw [List.length_append, List.length_singleton]; omega)
  have tail : Ev (fun k => (value_Row.f k n cols row).bind fun t => if ((t == 0) == b) = true then (if b = true then ((value_Row.f k n cols (row ++ [⟨0, false, 0, ⟨#[]⟩⟩])).bind fun t2 => some (t2 == 21)) else some true) else some false) true := by
    refine Ev.bind (f := fun k t => if ((t == 0) == b) = true then (if b = true then ((value_Row.f k n cols (row ++ [⟨0, false, 0, ⟨#[]⟩⟩])).bind fun t2 => some (t2 == 21)) else some true) else some false) (row_ev n cols row hm) ?_
    simp only [hz, beq_self_eq_true, if_true]
    cases hc : b
    · simp only [Bool.false_eq_true, if_false]
      exact Ev.now _
    · simp only [if_true]
      refine Ev.bind (f := fun k t2 => some (t2 == 21)) (row_ev n cols _ hm) ?_
      rw [hmore hc]
      exact Ev.now _
  refine Ev.step (fun k => ?_) tail
  simp only [hayloftlaw02_ValueFitsAll.l0, alive_some, Option.bind_some, List.nil_append, List.length_nil, Nat.zero_add, if_true]
  by_cases h1 : i < (row.length : Int)
  · rw [if_pos h1, if_neg (by omega), if_pos (by omega), if_pos (by omega)]
  · rw [if_neg h1, if_pos (by omega), if_pos (by omega)]
theorem fits_loop (n : ByteArray) (cols : List C') (row : List S') (hm : cols.length ≤ 9223372036854775807) (h0 : tableE n cols = 0) (hr : row.length + 1 < 3518437208883) :
    ∀ (d i : Nat), i + d = min row.length cols.length → ∀ b, (b && fitAll (cols.drop i) (row.drop i)) = (decide (row.length = cols.length) && fitAll cols row) → Ev (fun k => hayloftlaw02_ValueFitsAll.l0 k row b (i : Int) n cols) true := by
  intro d
  induction d with
  | zero =>
    intro i hi b hb
    refine fits_end n cols row hm h0 hr (i : Int) (by omega) b ?_
    rw [← hb]
    have : fitAll (cols.drop i) (row.drop i) = true := by
      rcases Nat.le_total row.length cols.length with h | h
      · rw [List.drop_of_length_le (l := row) (by omega)]
        cases cols.drop i <;> rw [fitAll] <;> simp
      · rw [List.drop_of_length_le (l := cols) (by omega), fitAll]; simp
    rw [this, Bool.and_true]
  | succ d ih =>
    intro i hi b hb
    have hx : rd_T28 cols (i : Int) = cols.getD i zc' := rfl
    have hy : rd_T23 row (i : Int) = row.getD i z' := rfl
    rw [drop_get zc' cols i (by omega), drop_get z' row i (by omega), fitAll] at hb
    have hih := ih (i + 1) (by omega)
    generalize cols.getD i zc' = c at hx hb
    generalize row.getD i z' = v at hy hb
    cases hc : b
    · refine Ev.step (fun k => ?_) (hih false (by rw [← hb, hc]; rfl))
      simp only [hayloftlaw02_ValueFitsAll.l0, hx, hy, fits1, Option.bind_some]
      rw [if_pos (by omega), if_pos (by omega), if_neg (by decide), wrapN (n := cols.length) (by omega) hm]
    · refine Ev.step (fun k => ?_) (hih (fitsS c v) (by rw [← hb, hc]; rfl))
      simp only [hayloftlaw02_ValueFitsAll.l0, hx, hy, fits1, Option.bind_some]
      rw [if_pos (by omega), if_pos (by omega), if_pos trivial, if_pos (by omega), wrapN (n := cols.length) (by omega) hm]
theorem pureFitsAll (n : ByteArray) (cols : List C') (row : List S') (hG : cols.length ≤ 9223372036854775807) (hr : row.length + 1 < 3518437208883) : ∃ k, hayloftlaw02_ValueFitsAll.f k n cols row = some true := by
  refine Ev.rounds ?_
  unfold hayloftlaw02_ValueFitsAll.f
  simp only [alive_some, Option.bind_some, if_true]
  refine Ev.bind (f := fun k t194 => (if t194 = 0 then (hayloftlaw02_ValueFitsAll.l0 k row ((row.length : Int) == (cols.length : Int)) 0 n cols) else ((value_Row.f k n cols row).bind fun t196 => (some (t196 == 20))))) (table_ev n cols hG) ?_
  by_cases h : tableE n cols = 0
  · simp only [if_pos h]
    refine fits_loop n cols row hG h hr (min row.length cols.length) 0 (by omega) _ ?_
    rw [List.drop_zero, List.drop_zero]
    congr 1
    rw [Bool.eq_iff_iff, beq_iff_eq, decide_eq_true_iff]
    omega
  · simp only [if_neg h]
    refine Ev.bind (f := fun k t196 => (some (t196 == 20))) (row_ev n cols row hG) ?_
    have : rowT n cols row = 20 := by
      unfold rowT
      rw [if_neg h]
      exact (tableE_two n cols).resolve_left h
    rw [this]
    exact Ev.now _
end Go.Proofs.YtmkikigikedjoaaDoor.QV
