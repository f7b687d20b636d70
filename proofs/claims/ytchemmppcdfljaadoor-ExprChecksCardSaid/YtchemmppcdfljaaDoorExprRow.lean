/- What the rows of the laws on terms share: the table out of the list of what is laid; how their arguments are opened. -/
import Derived.Test.YtchemmppcdfljaaDoorOpen
import Derived.Test.YtchemmppcdfljaaDoorExpr
import Derived.Deep.DeepHandedRow
namespace Go.Proofs.YtchemmppcdfljaaDoor.Op
open Go.RowKit Go.Proofs.YtchemmppcdfljaaDoorW.PrintWords
set_option linter.unusedVariables false

theorem tab_bools {H : Type} {enc : TypeId × Value → H} {P : Program} {w : World} {base : Nat} {sp : Nat → Bool} {held : Bool} {fuel : Nat} {t e b : TypeId} {n m : Nat} {cs : List Value} {rows : List (List Bool)} {p : List MemPlace}
    (ht : P.underlying t = some (.array n e)) (he : P.underlying e = some (.array m b)) (hb : P.underlying b = some .bool) (hcb : P.cellsOf b = 1) (hce : P.cellsOf e = m)
    (h : DataW.trod enc P w base sp held fuel t cs = some (.agg (rows.map fun r => .agg (r.map fun x => .lit (.bool x))), p)) :
    ∀ i r, rows[i]? = some r → ∀ j x, r[j]? = some x → cs[i * m + j]? = some (.bool x) := by
  intro i r hr j x hx
  obtain ⟨xs, k, rfl, hxs, hl, hxl, hget⟩ := DataW.trod_array ht h
  have hmap : rows.map (fun r => (DataW.agg (r.map fun x => .lit (.bool x)) : DataW H)) = xs.map (·.1) := by
    have := congrArg Prod.fst hxs
    simpa using this
  have hlen := congrArg List.length hmap
  simp only [List.length_map] at hlen
  have hi : i < rows.length := (List.getElem?_eq_some_iff.1 hr).1
  obtain ⟨y, hy⟩ : ∃ y, xs[i]? = some y := ⟨_, List.getElem?_eq_getElem (by omega)⟩
  have hy1 : y.1 = .agg (r.map fun x => .lit (.bool x)) := by
    have := congrArg (fun l => l[i]?) hmap
    simp only [List.getElem?_map, hr, hy, Option.map_some, Option.some.injEq] at this
    exact this.symm
  have h1 := hget i (by omega)
  rw [hy, hce] at h1
  obtain ⟨zs, k', rfl, hzs, hl', hzl, hget'⟩ := DataW.trod_array he h1
  have hmap' : r.map (fun x => (DataW.lit (.bool x) : DataW H)) = zs.map (·.1) := by
    have := congrArg Prod.fst hzs
    rw [hy1] at this
    simpa using this
  have hlen' := congrArg List.length hmap'
  simp only [List.length_map] at hlen'
  have hj : j < r.length := (List.getElem?_eq_some_iff.1 hx).1
  obtain ⟨z, hz⟩ : ∃ z, zs[j]? = some z := ⟨_, List.getElem?_eq_getElem (by omega)⟩
  have hz1 : z.1 = .lit (.bool x) := by
    have := congrArg (fun l => l[j]?) hmap'
    simp only [List.getElem?_map, hx, hz, Option.map_some, Option.some.injEq] at this
    exact this.symm
  have h2 := hget' j (by omega)
  rw [hz, hcb] at h2
  obtain ⟨v, hv, rfl⟩ := DataW.trod_bool hb h2
  have hvx : v = x := by simpa using hz1
  subst hvx
  have h3 := congrArg (·[0]?) hv
  have hjm : j < m := by omega
  simp only [List.getElem?_take, List.getElem?_drop, Nat.mul_one, Nat.add_zero, List.getElem?_cons_zero] at h3
  rw [if_pos (by omega), if_pos (by omega)] at h3
  exact h3

theorem tab_met {W : World} (h : laidMetH Tryd.prog [("hayloft/expr.orders", Rows.laid_hayloft_expr_orders)] W) : Tab W := by
  obtain ⟨ps, ⟨g', t', cs, fuel, p, q, hg', ht', hvar, hd, _, _⟩, _⟩ := (show laidMet Tryd.prog [("hayloft/expr.orders", Rows.laid_hayloft_expr_orders)] W from h)
  have hg : Tryd.prog.globalNamed "hayloft/expr.orders" = some 0 := by kernel_rfl
  have hty : (Tryd.prog.globals[0]?).map (·.type) = some 47 := by kernel_rfl
  obtain rfl := Option.some.inj (hg.symm.trans hg')
  obtain rfl := Option.some.inj (hty.symm.trans ht')
  have hb := tab_bools (rows := [[false, true, false], [true, false, true], [true, false, false], [true, true, false], [false, false, true], [false, true, true]]) Tryd.underlying47 Tryd.underlying46 Tryd.underlying4 (by kernel_rfl) (by kernel_rfl) hd
  have hc : ∀ i, W.cell? ⟨0, i, none⟩ = cs[i]? := fun i => World.var?_cell hg hvar i
  have cell : ∀ i, i < 18 → W.cell? ⟨0, i, none⟩ = some (.bool (tabL.getD i false)) := by
    intro i hi
    rw [hc, ← Array.getElem?_toList]
    have h18 : i = 0 ∨ i = 1 ∨ i = 2 ∨ i = 3 ∨ i = 4 ∨ i = 5 ∨ i = 6 ∨ i = 7 ∨ i = 8 ∨ i = 9 ∨ i = 10 ∨ i = 11 ∨ i = 12 ∨ i = 13 ∨ i = 14 ∨ i = 15 ∨ i = 16 ∨ i = 17 := by omega
    rcases h18 with rfl | rfl | rfl | rfl | rfl | rfl | rfl | rfl | rfl | rfl | rfl | rfl | rfl | rfl | rfl | rfl | rfl | rfl
    · exact hb 0 _ rfl 0 _ rfl
    · exact hb 0 _ rfl 1 _ rfl
    · exact hb 0 _ rfl 2 _ rfl
    · exact hb 1 _ rfl 0 _ rfl
    · exact hb 1 _ rfl 1 _ rfl
    · exact hb 1 _ rfl 2 _ rfl
    · exact hb 2 _ rfl 0 _ rfl
    · exact hb 2 _ rfl 1 _ rfl
    · exact hb 2 _ rfl 2 _ rfl
    · exact hb 3 _ rfl 0 _ rfl
    · exact hb 3 _ rfl 1 _ rfl
    · exact hb 3 _ rfl 2 _ rfl
    · exact hb 4 _ rfl 0 _ rfl
    · exact hb 4 _ rfl 1 _ rfl
    · exact hb 4 _ rfl 2 _ rfl
    · exact hb 5 _ rfl 0 _ rfl
    · exact hb 5 _ rfl 1 _ rfl
    · exact hb 5 _ rfl 2 _ rfl
  exact ⟨World.block_lt_of_cell? W _ (cell 0 (by omega)), cell⟩

/-- A WORLD FOR THE WITNESS: the settled one, the table holding what its initialiser lays. -/
noncomputable def laidWorld (os : Os) : World :=
  { World.holding Tryd.prog os ⟨#[], #[], []⟩ with heap := (World.holding Tryd.prog os ⟨#[], #[], []⟩).heap.modify 0 fun
      | .cells _ t frozen => .cells (tabL.map Value.bool).toArray t frozen
      | o => o }

/-! how arguments are opened -/
def gV (x : V) : Prop := (Lit.int .i64 x.k).wf = true ∧ (Lit.int .i64 x.i).wf = true ∧ x.s.size ≤ 140737488351232
def mV (x : V) : Nat := x.s.size + 4
theorem oV : Opens Tryd.prog 25 kV gV mV :=
  opens_mono (fun x h => ⟨h.1, h.2.2.1, h.2.2.2⟩) (fun x => by simp only [mV]; omega)
    (opens_iso (b := fun x => ⟨x.1, x.2.1, x.2.2.1, x.2.2.2⟩) (fun _ => rfl) (opens_struct Tryd.underlying25 (by kernel_rfl)
      (opensF_cons rfl (by kernel_rfl) rfl (opens_int Tryd.underlying3) (opensF_cons rfl (by kernel_rfl) rfl (opens_bool Tryd.underlying4) (opensF_cons rfl (by kernel_rfl) rfl (opens_int Tryd.underlying2) (opensF_last rfl (by kernel_rfl) (opens_string Tryd.underlying9)))))))
theorem oVs : Opens Tryd.prog 23 (Kd.slice 25 kV) (fun xs => (∀ x ∈ xs, gV x) ∧ xs.length ≤ 9223372036854775807 ∧ xs.length * 40 ≤ 140737488351232) (fun xs => (xs.map mV).sum + 1) :=
  opens_slice Tryd.underlying23 (by kernel_rfl) (by kernel_rfl) oV
def gT (x : T) : Prop := (Lit.int .i64 x.c).wf = true ∧ (Lit.int .i64 x.o).wf = true ∧ gV x.v
def mT (x : T) : Nat := mV x.v + 2
theorem oT : Opens Tryd.prog 27 kT gT mT :=
  opens_mono (fun x h => ⟨h.1, h.2.1, h.2.2⟩) (fun x => by simp only [mT]; omega)
    (opens_iso (b := fun x => ⟨x.1, x.2.1, x.2.2⟩) (fun _ => rfl) (opens_struct Tryd.underlying27 (by kernel_rfl)
      (opensF_cons rfl (by kernel_rfl) rfl (opens_int Tryd.underlying3) (opensF_cons rfl (by kernel_rfl) rfl (opens_int Tryd.underlying3) (opensF_last rfl (by kernel_rfl) oV)))))
theorem oTs : Opens Tryd.prog 22 (Kd.slice 27 kT) (fun xs => (∀ x ∈ xs, gT x) ∧ xs.length ≤ 9223372036854775807 ∧ xs.length * 56 ≤ 140737488351232) (fun xs => (xs.map mT).sum + 1) :=
  opens_slice Tryd.underlying22 (by kernel_rfl) (by kernel_rfl) oT
end Go.Proofs.YtchemmppcdfljaaDoor.Op
