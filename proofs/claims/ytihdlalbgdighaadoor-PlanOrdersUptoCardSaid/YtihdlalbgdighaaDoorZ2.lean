/- The parts RoundW, GroupF, XOpen4, Expr, ExprRow, Seq3, AliveX, Str, ExprAll, G14, Filter, XOpen2, InsG, StabP, SortP, RoundX, Stab, Stab2, Stab3, GrpS, MinMax, Pick, GrpL, GrpI, ToldG, Ints of this proof, one behind the other. -/
import Derived.Test.YtihdlalbgdighaaDoorZ1
import Derived.OrdersHeld
import Derived.OrdersIn
import Derived.TacticsIn
import Derived.RangeFuncCalls
import Derived.Deep.RegionHeld
import Derived.Deep.QuietTactic
import Derived.BigQuiet
import Derived.BigRegion
import Derived.Lib.Hide
import Derived.Deep.DeepHandedRow
import Derived.LoopTactic
import Derived.Deep.RegionHeld3
import Derived.Deep.Light
import Derived.Lib.Overlaps
import Derived.Lib.AppendZerosOnto
import Derived.Shelf.RegionOpenPlain
import Derived.Laws.CopyRow
import Derived.Laws.Externs
import Derived.Below
import Derived.Handy
/- XRound outside a round (printed from XRound): one condition S on the world for the whole region; what yields its value in every world that meets S is taken first. -/
namespace Go.Proofs.YtihdlalbgdighaaDoor.SeqW
open Go Go.RowKit
set_option linter.unusedVariables false

abbrev Rn (l : Nat) : Fence := Fence.wide
theorem calls_in (l n : Nat) {P : Program} {f : FuncId} {args : Array Value} {w : World} {R : Ending → World → Prop} (h : Calls P f args w R) : CallsIn (Rn l) n P f args w R :=
  callsIn_wide.2 h
theorem rows_in (l n : Nat) {P : Program} {row : String} {args : Array Value} {w : World} {R : Value → World → Prop} (h : Rows P row args w R) : RowsIn (Rn l) n P row args w R := by
  intro c cs _
  obtain ⟨v, w', r, s⟩ := h c cs
  exact ⟨v, w', r, stepsIn_wide.2 s⟩
/-- An operation that is no deferred call, carried out in a round, goes as anywhere. -/
theorem op_in (l n : Nat) {P : Program} {o : Oper} {a : Act} {w : World} {K : Act → World → Prop} {Q : Exit → Act → World → Prop} (hnd : ∀ c, o.op ≠ .defer c) (h : o.wp P a w K Q) : o.wpIn (Rn l) n P a w K Q := by
  refine ⟨fun _ _ => trivial, ?_⟩
  unfold Oper.wp at h
  rw [show (Rn l).round = none from rfl, Oper.semAt_none]
  generalize (execOp a.eval o).run P w = r at h
  cases r with
  | ok x w' =>
    cases x <;> simp only [Oper.upon, Oper.uponIn] at h ⊢
    case value v => exact h
    case skip => exact h
    case defer d => exact h
    case enter f args => exact ⟨(fun h => by cases h), calls_in l _ h⟩
    case row row args => exact ⟨(fun h => by cases h), rows_in l _ h⟩
  | halt x w' => cases x <;> simp only [Oper.upon, Oper.uponIn] at h ⊢; exact h

section
variable {l : Nat} {P : Program} {ops : Array Oper} {Q : Exit → Act → World → Prop} {S : World → Prop} {d : Nat}
def noDefer (ops : Array Oper) : Bool := ops.toList.all fun o => match o.op with | .defer _ => false | _ => true
theorem noDefer_spec (h : noDefer ops = true) (j : Nat) (o : Oper) (ho : ops[j]? = some o) : ∀ c, o.op ≠ .defer c := by
  intro c e
  have hm : o ∈ ops.toList := by
    have := Array.mem_of_getElem? ho
    simpa using this
  have := List.all_eq_true.1 h o hm
  rw [e] at this
  simp at this

/-- Number d waits for number i. -/
def waitsOn (ops : Array Oper) (d i : Nat) : Bool := match ops[d]? with
  | some o => o.after.toList.any (fun e => Region.binds .any e && e.on == i)
  | none => true
/-- S is to hold behind each operation but number d. -/
def wpAnyR (l : Nat) (P : Program) (ops : Array Oper) (Q : Exit → Act → World → Prop) (S : World → Prop) (d : Nat) : Nat → Array Bool → Act → World → Prop
  | 0, listed, a, w => Region.ready .any ops listed = [] ∧ Q .normal a w
  | fuel + 1, listed, a, w => (Region.ready .any ops listed = [] → Q .normal a w) ∧
    ∀ i ∈ Region.ready .any ops listed, wpOpIn (Rn l) 0 P ops Q i (fun a' w' => (i = d ∨ S w') ∧ wpAnyR l P ops Q S d fuel (listed.setIfInBounds i true) a' w') a w
theorem wpAnyIn_of_R : ∀ (fuel : Nat) (listed : Array Bool) (a : Act) (w : World), wpAnyR l P ops Q S d fuel listed a w → wpAnyIn (Rn l) 0 P .any ops Q fuel listed a w
  | 0, _, _, _, h => h
  | fuel + 1, _, _, _, h => ⟨h.1, fun i hi => wpOpIn_mono (fun a' w' h' => wpAnyIn_of_R fuel _ a' w' h'.2) (h.2 i hi)⟩
theorem YieldsIf.wpOpR {i : Nat} {o : Oper} {v : Value} {a : Act} (hnd : noDefer ops = true) (hi : ops[i]? = some o) (hy : YieldsIf P ops S o v a) {K : Act → World → Prop} {w : World} (hS : S w) (h : K (a.put o.dst v) w) : wpOpIn (Rn l) 0 P ops Q i K a w := by
  unfold Go.wpOpIn
  simp only [hi]
  rcases hy with ⟨hw, hv⟩ | ⟨hw, rfl⟩
  · simp only [hw, if_true]
    exact op_in l 0 (noDefer_spec hnd i o hi) (by simp only [Oper.wp, hv w hS, Oper.upon]; exact h)
  · simp only [hw, Bool.false_eq_true, if_false]; exact ⟨fun _ _ => trivial, h⟩
theorem wpOpR_putIf {j : Nat} {oi oj : Oper} {v : Value} (hnd : noDefer ops = true) (hj : ops[j]? = some oj) (hap : oi.apart ops oj = true)
    (hsi : ∀ cs b, oi.op ≠ .select cs b) (hsj : ∀ cs b, oj.op ≠ .select cs b)
    (hQ : ∀ c a w, Q (.panic c) (a.put oi.dst v) w → Q (.panic c) a w) {K : Act → World → Prop} {a : Act} {w : World}
    (hy : YieldsIf P ops S oi v a) (h : wpOpIn (Rn l) 0 P ops Q j K (a.put oi.dst v) w) :
    wpOpIn (Rn l) 0 P ops Q j (fun a' w' => YieldsIf P ops S oi v a' ∧ K (a'.put oi.dst v) w') a w := by
  have hnj := noDefer_spec hnd j oj hj
  obtain ⟨h1, h2, h3⟩ := Oper.apart_spec hap
  have keep : ∀ (a : Act), YieldsIf P ops S oi v a → ∀ u, YieldsIf P ops S oi v (a.put oj.dst u) := fun a hy u =>
    hy.of_same (execOp_put oi hsi a oj.dst u h3) (wanted_put oi a oj.dst u h3)
  have keepD : ∀ d, YieldsIf P ops S oi v { a with defers := d :: a.defers } := fun d => hy.of_same rfl rfl
  unfold wpOpIn at *
  simp only [hj] at *
  rw [wanted_put oj a oi.dst v h1] at h
  split
  · rename_i hw
    simp only [hw, if_true] at h
    unfold Oper.wpIn at *
    refine ⟨fun _ _ => trivial, ?_⟩
    have h := h.2
    rw [show (Rn l).round = none from rfl, Oper.semAt_none] at h ⊢
    rw [execOp_put oj hsj a oi.dst v h1] at h
    generalize (execOp a.eval oj).run P w = r at *
    cases r with
    | ok x w' =>
      cases x <;> simp only [Oper.uponIn] at h ⊢
      case value u => exact ⟨keep a hy u, by rw [← Act.put_comm a v u h2]; exact h⟩
      case skip => exact ⟨keep a hy _, by rw [← Act.put_comm a v undef h2]; exact h⟩
      case defer d =>
        refine ⟨keep _ (keepD d) _, ?_⟩
        rw [← Act.put_comm _ v undef h2, ← Act.put_defers]
        exact h
      case enter f args =>
        refine ⟨h.1, CallsIn.mono h.2 fun e w'' he => ?_⟩
        cases e with
        | returned u => exact ⟨keep a hy u, by rw [← Act.put_comm a v u h2]; exact he⟩
        | panicked c => exact hQ _ _ _ he
        | outgrown => exact he
      case row row args => exact ⟨h.1, RowsIn.mono h.2 fun u w'' he => ⟨keep a hy u, by rw [← Act.put_comm a v u h2]; exact he⟩⟩
      case round l f tmps assign body =>
        refine ⟨h.1, RoundIn.mono h.2 fun e w'' he => ?_⟩
        cases e with
        | returned u => exact ⟨keep a hy u, by rw [← Act.put_comm a v u h2]; exact he⟩
        | panicked c => exact hQ _ _ _ he
        | outgrown => exact he
    | halt x w' =>
      cases x <;> simp only [Oper.uponIn] at h ⊢
      case panic u => exact hQ _ _ _ h
  · rename_i hw
    simp only [hw] at h
    exact ⟨fun _ _ => trivial, keep a hy _, by rw [← Act.put_comm a v undef h2]; exact h.2⟩
theorem wpAnyR_first {i : Nat} {oi : Oper} {v : Value} (hnd : noDefer ops = true) (hwd : waitsOn ops d i = true) (hi : ops[i]? = some oi) (hsel : ∀ (j : Nat) (o : Oper) cs b, ops[j]? = some o → o.op ≠ .select cs b)
    (hQ : ∀ c a w, Q (.panic c) (a.put oi.dst v) w → Q (.panic c) a w) :
    ∀ (fuel : Nat) (listed : Array Bool) (a : Act) (w : World),
      (∀ j oj, ops[j]? = some oj → j ≠ i → listed.getD j true = false → (∀ e ∈ oj.after, Region.binds .any e = true → e.on ≠ i) → oi.apart ops oj = true) →
      i ∈ Region.ready .any ops listed → YieldsIf P ops S oi v a → S w →
      wpAnyR l P ops Q S d fuel (listed.setIfInBounds i true) (a.put oi.dst v) w → wpAnyR l P ops Q S d (fuel + 1) listed a w := by
  intro fuel
  induction fuel with
  | zero =>
    intro listed a w _ hr hy hS H
    refine ⟨fun h => (by rw [h] at hr; cases hr), fun j hj => ?_⟩
    by_cases hji : j = i
    · subst hji; exact YieldsIf.wpOpR hnd hi hy hS ⟨.inr hS, H⟩
    · have := ready_mono hj hji
      rw [H.1] at this
      cases this
  | succ fuel ih =>
    intro listed a w hfree hr hy hS H
    refine ⟨fun h => (by rw [h] at hr; cases hr), fun j hj => ?_⟩
    by_cases hji : j = i
    · subst hji; exact YieldsIf.wpOpR hnd hi hy hS ⟨.inr hS, H⟩
    · have h1 := H.2 j (ready_mono hj hji)
      obtain ⟨hjun, oj, hoj, hall⟩ := mem_ready.1 hj
      have hnot : ∀ e ∈ oj.after, Region.binds .any e = true → e.on ≠ i := fun e he hb heq => by
        have h1 := hall e he hb
        have h0 := (mem_ready.1 hr).1
        rw [heq] at h1
        rcases Nat.lt_or_ge i listed.size with h' | h'
        · simp [h'] at h0 h1; rw [h0] at h1; cases h1
        · simp [Array.getElem?_eq_none h'] at h1
      have h2 := wpOpR_putIf hnd hoj (hfree j oj hoj hji hjun hnot) (fun cs b => hsel i oi cs b hi) (fun cs b => hsel j oj cs b hoj) hQ hy h1
      have hfree' : ∀ k ok, ops[k]? = some ok → k ≠ i → (listed.setIfInBounds j true).getD k true = false →
          (∀ e ∈ ok.after, Region.binds .any e = true → e.on ≠ i) → oi.apart ops ok = true := fun k ok hk hki hun hno => by
        refine hfree k ok hk hki ?_ hno
        by_cases hjk : j = k
        · subst hjk; exact hjun
        · rw [getD_set_ne true hjk] at hun; exact hun
      have hjd : j ≠ d := by
        rintro rfl
        unfold waitsOn at hwd
        rw [hoj] at hwd
        obtain ⟨q, hq, hqb⟩ := List.any_eq_true.1 hwd
        rw [Array.mem_toList_iff] at hq
        rw [Bool.and_eq_true] at hqb
        exact hnot q hq hqb.1 (by simpa using hqb.2)
      refine wpOpIn_mono (fun a' w' h3 => ⟨.inr (h3.2.1.resolve_left hjd), ih (listed.setIfInBounds j true) a' w' hfree' (ready_mono hr (Ne.symm hji)) h3.1 (h3.2.1.resolve_left hjd) ?_⟩) h2
      rw [Array.setIfInBounds_comm _ _ hji]
      exact h3.2.2
/-- Take number i first. -/
theorem wpAnyR_take {i : Nat} {oi : Oper} {v : Value} {fuel : Nat} {listed : Array Bool} {a : Act} {w : World} (hnd : noDefer ops = true) (hwd : waitsOn ops d i = true) (hi : ops[i]? = some oi)
    (hs : Region.noSelect ops = true) (hf : Region.free .any ops listed i = true) (hr : (Region.ready .any ops listed).contains i = true)
    (hQ : ∀ c a w, Q (.panic c) (a.put oi.dst v) w → Q (.panic c) a w) (hy : YieldsIf P ops S oi v a) (hS : S w)
    (h : wpAnyR l P ops Q S d fuel (listed.setIfInBounds i true) (a.put oi.dst v) w) : wpAnyR l P ops Q S d (fuel + 1) listed a w :=
  wpAnyR_first hnd hwd hi (Region.noSelect_spec hs) hQ fuel listed a w (Region.free_spec hi hf) (by simpa using hr) hy hS h
/-- Number i is the only one that may come up: it goes as anywhere. -/
theorem wpAnyR_one {i : Nat} {o : Oper} {fuel : Nat} {listed : Array Bool} {a : Act} {w : World} (hnd : noDefer ops = true) (hr : Region.ready .any ops listed = [i]) (ho : ops[i]? = some o)
    (h : ∀ K' : Act → World → Prop, Shut (∀ a w, (i = d ∨ S w) → wpAnyR l P ops Q S d fuel (listed.setIfInBounds i true) a w → K' a w) → if Region.wanted o (yielded ops a.tmps) = true then Oper.wp P o a w K' Q else K' (a.put o.dst undef) w) :
    wpAnyR l P ops Q S d (fuel + 1) listed a w := by
  refine ⟨fun h0 => (by rw [hr] at h0; cases h0), fun j hj => ?_⟩
  rw [hr] at hj
  obtain rfl := List.mem_singleton.1 hj
  have := h (fun a' w' => (j = d ∨ S w') ∧ wpAnyR l P ops Q S d fuel (listed.setIfInBounds j true) a' w') (fun a w hs hw => ⟨hs, hw⟩)
  unfold Go.wpOpIn
  simp only [ho]
  split
  · rename_i hw; rw [if_pos hw] at this; exact op_in l 0 (noDefer_spec hnd j o ho) this
  · rename_i hw; rw [if_neg hw] at this; exact ⟨fun _ _ => trivial, this⟩
/-- Number i is the only one that may come up, and it is a call of yield (or whatever else goes in a round alone). -/
theorem wpAnyR_oneIn {i : Nat} {o : Oper} {fuel : Nat} {listed : Array Bool} {a : Act} {w : World} (hr : Region.ready .any ops listed = [i]) (ho : ops[i]? = some o)
    (h : ∀ K' : Act → World → Prop, Shut (∀ a w, (i = d ∨ S w) → wpAnyR l P ops Q S d fuel (listed.setIfInBounds i true) a w → K' a w) → if Region.wanted o (yielded ops a.tmps) = true then Oper.wpIn (Rn l) 0 P o a w K' Q else K' (a.put o.dst undef) w) :
    wpAnyR l P ops Q S d (fuel + 1) listed a w := by
  refine ⟨fun h0 => (by rw [hr] at h0; cases h0), fun j hj => ?_⟩
  rw [hr] at hj
  obtain rfl := List.mem_singleton.1 hj
  have := h (fun a' w' => (j = d ∨ S w') ∧ wpAnyR l P ops Q S d fuel (listed.setIfInBounds j true) a' w') (fun a w hs hw => ⟨hs, hw⟩)
  unfold Go.wpOpIn
  simp only [ho]
  split
  · rename_i hw; rw [if_pos hw] at this; exact this
  · rename_i hw; rw [if_neg hw] at this; exact ⟨fun _ _ => trivial, this⟩
theorem wpAnyR_done {listed : Array Bool} {a : Act} {w : World} (hr : Region.ready .any ops listed = []) (h : Q .normal a w) : ∀ fuel, wpAnyR l P ops Q S d fuel listed a w
  | 0 => ⟨hr, h⟩
  | _ + 1 => ⟨fun _ => h, by rw [hr]; simp⟩
/-- The beginning. -/
theorem wpIn_region_R (d : Nat) {id : Nat} {a : Act} {w : World} (hm : P.follows .mixedOrders = true) (hS : S w.drew)
    (h : S w.drew → wpAnyR l P ops Q S d ops.size (Array.replicate ops.size false) a w.drew) : (Code.region id ops true).wpIn (Rn l) 0 P Q a w :=
  wpIn_region_any hm (wpAnyIn_of_R _ _ _ _ (h hS))
end
end Go.Proofs.YtihdlalbgdighaaDoor.SeqW
/- exec.Group where the rows are counted, as a function. -/
namespace Go.Proofs.YtihdlalbgdighaaDoor.QV
open Go.RowKit Go.Proofs.YtihdlalbgdighaaDoorW.PrintWords Go.Proofs.YtihdlalbgdighaaDoor.SeqW Go.Shelf Go.Proofs.YtihdlalbgdighaaDoor.Op
set_option linter.unusedVariables false
set_option maxRecDepth 100000
set_option linter.unusedSimpArgs false
attribute [local go_sem] Oper.semAt_some

/-! the kind of api.Agg, as the print spells kinds -/
structure S99 where
  f0 : Int
  f1 : Int
def z99 : S99 := ⟨0, 0⟩
def k99 : Kd S99 := Kd.iso (Kd.pair (Kd.int .i64) (Kd.int .i64)) (fun x : S99 => (x.f0, x.f1))
theorem k99_open {w : World} {x : S99} {cs : List Value} (h : k99.K w x cs) : cs = [.int .i64 x.f0, .int .i64 x.f1] := by
  obtain ⟨_, _, rfl, rfl, rfl⟩ := h
  exact rfl
theorem k99_mkM (w : World) (base : Nat) (ok : Nat → Prop) (x : S99)  : k99.M w base ok x [.int .i64 x.f0, .int .i64 x.f1] := ⟨[.int .i64 x.f0], [.int .i64 x.f1], rfl, rfl, rfl⟩
abbrev kA : Kd S99 := k99
theorem infoA : (Tryd.prog.info? 99).map (fun i => (i.zero, i.size, i.bytes)) = some (some (.agg #[.int .i64 0, .int .i64 0]), 2, 16) := by kernel_rfl
theorem kA_KM {w W : World} {base : Nat} {ok : Nat → Prop} (x : S99) (cs : List Value) (h : kA.K w x cs) : kA.M W base ok x cs := by
  rw [k99_open h]; exact k99_mkM _ _ _ _
set_option maxHeartbeats 1000000 in
theorem clone_aggs (ad : Addr) (l : List S99) (c : Nat) (w : World) (hr : kA.C w (some ad) l.length l) (hc : l.length ≤ c) (hb : l.length * 16 ≤ 140737488355328) :
    Calls Tryd.prog 54 #[.slice (some ad) l.length c] w fun e w' => ∃ v, e = .returned v ∧ kA.R 99 w' w.heap.size (fun _ => True) v l ∧ Below w.heap.size w w' := by
  have hmax := hr.2.1
  have hn := Lib.run_eql_slice_nil (P := Tryd.prog)
  go_enter Tryd.func54, Tryd.ntmps54
  go_wp2_with (at_builtin; refine Kd.R_append_rows kA (w0 := w) w.heap.size rfl (.tmp 5) (.tmp 6) 24 99 _ 16 rfl Tryd.underlying24 infoA rfl (by decide) (by decide) (.slice (some ⟨w.heap.size, 0, none⟩) 0 0) [] l (some ad) l.length c (fun _ => True) (fun _ => False) rfl rfl (R_empty' kA _ _ _ _ (Nat.le_refl _) trivial) (Kd.C_below hr (below_alloc (Below.refl _ _) _)) (fun x cs h => kA_KM x cs h) (fun _ h => h.elim) (fun _ _ => trivial) (below_alloc (Below.refl _ _) _) (by simp) (by simp; omega) ?_; intro v1 w4 hv1 hB7 hg7 hat7; clear hg7 hat7)
  go_ret
  exact ⟨v1, rfl, by simpa using hv1, hB7⟩

end Go.Proofs.YtihdlalbgdighaaDoor.QV
/- How aggregates and whole numbers are opened into the print's kinds. -/
namespace Go.Proofs.YtihdlalbgdighaaDoor.QV
open Go.RowKit Go.Proofs.YtihdlalbgdighaaDoorW.PrintWords Go.Proofs.YtihdlalbgdighaaDoor.Op
set_option linter.unusedVariables false
theorem oAg : Opens Tryd.prog 99 k99 (fun _ => True) (fun x => 1) :=
  opens_mono (fun _ _ => trivial) (fun x => by omega)
    (opens_iso (b := fun x => ⟨x.1, x.2⟩) (fun _ => rfl) (opens_struct Tryd.underlying99 (by kernel_rfl)
      (opensF_cons rfl (by kernel_rfl) rfl (opens_int Tryd.underlying3) (opensF_last rfl (by kernel_rfl) (opens_int Tryd.underlying3)))))
theorem oAggs : Opens Tryd.prog 24 (Kd.slice 99 k99) (fun xs => xs.length ≤ 9223372036854775807 ∧ xs.length * 16 ≤ 140737488351232) (fun xs => xs.length + 1) :=
  opens_mono (fun _ h => h.2) (fun xs => by have := len_le_sum (m := fun x : S99 => 1) (fun _ => by omega) xs; omega) (opens_slice Tryd.underlying24 (by kernel_rfl) (by kernel_rfl) oAg)
end Go.Proofs.YtihdlalbgdighaaDoor.QV
/- What the functions of package expr, and the reference's, tell of terms. -/
namespace Go.Proofs.YtihdlalbgdighaaDoor.Op
open Go.RowKit Go.Proofs.YtihdlalbgdighaaDoorW.PrintWords
set_option linter.unusedVariables false

/-- The program's table: of each term, for below, like, above, whether it is true. -/
def tabL : List Bool := [false, true, false, true, false, true, true, false, false, true, true, false, false, false, true, false, true, true]
def Tab (w : World) : Prop := 0 < w.heap.size ∧ ∀ i, i < 18 → w.cell? ⟨0, i, none⟩ = some (.bool (tabL.getD i false))
theorem Tab.below {w w' : World} (h : Tab w) (hb : Below w.heap.size w w') : Tab w' := ⟨by have := hb.size; have := h.1; omega, fun i hi => (hb.cell (p := ⟨0, i, none⟩) h.1).trans (h.2 i hi)⟩

theorem full_any (is : Bool) (g h : Nat) (vk tk : Int) (w : World) (hg : w.cell? ⟨g, 0, none⟩ = some (.int .i64 vk)) (hh : w.cell? ⟨h, 2, none⟩ = some (.int .i64 tk)) :
    Calls Tryd.prog 98 #[.bool is, .pointer (some ⟨g, 0, none⟩), .pointer (some ⟨h, 0, none⟩)] w fun e w' => e = .returned (.bool (is && (vk != 0 && tk != 0))) ∧ w = w' := by
  go_enter Tryd.func98, Tryd.ntmps98
  go_wp2
  all_goals go_ret
  all_goals refine ⟨ret_bool ?_, rfl⟩
  all_goals simp_all

/-- Is a term true of a row? -/
def termB (t : T) (row : List V) : Bool :=
  if 0 ≤ t.c ∧ t.c < row.length then
    if t.o = 6 then (row.getD t.c.toNat V.z).k == 0 else if t.o = 7 then (row.getD t.c.toNat V.z).k != 0
    else if 0 ≤ t.o ∧ t.o ≤ 5 then tabL.getD (t.o.toNat * 3 + (cmpV (row.getD t.c.toNat V.z) t.v + 1).toNat) false && ((row.getD t.c.toNat V.z).k != 0 && t.v.k != 0) else false
  else false

theorem termB_in (t : T) (row : List V) (h : 0 ≤ t.c ∧ t.c < row.length) : termB t row =
    if t.o = 6 then (row.getD t.c.toNat V.z).k == 0 else if t.o = 7 then (row.getD t.c.toNat V.z).k != 0
    else if 0 ≤ t.o ∧ t.o ≤ 5 then tabL.getD (t.o.toNat * 3 + (cmpV (row.getD t.c.toNat V.z) t.v + 1).toNat) false && ((row.getD t.c.toNat V.z).k != 0 && t.v.k != 0) else false := by
  unfold termB; rw [if_pos h]
theorem termB_out (t : T) (row : List V) (h : ¬ (0 ≤ t.c ∧ t.c < row.length)) : termB t row = false := by
  unfold termB; rw [if_neg h]

set_option maxHeartbeats 1000000 in
theorem term_any (t : T) (A : Option Addr) (row : List V) (c : Nat) (w : World) (hr : kV.C w A row.length row) (hc : row.length ≤ c) (hT : Tab w) :
    Calls Tryd.prog 82 #[t.val, .slice A row.length c] w fun e w' => e = .returned (.bool (termB t row)) ∧ Below w.heap.size w w' := by
  obtain ⟨tc, o, k, b, i, s⟩ := t
  have hm := hr.2.1
  unfold T.val
  by_cases h0 : 0 ≤ tc ∧ tc < row.length
  · have HF := Lib.hid (termB_in ⟨tc, o, ⟨k, b, i, s⟩⟩ row h0)
    obtain ⟨h0, h1⟩ := h0
    obtain ⟨ad, rfl, hv⟩ := kV_at hr tc.toNat (by omega)
    generalize hx : row.getD tc.toNat V.z = x at hv HF
    obtain ⟨vk, vb, vi, vs⟩ := x
    obtain ⟨hlt, hv0, hv1, hv2, hv3⟩ := hv
    simp only at hv0 hv1 hv2 hv3 HF
    clear hx
    have hcr := cmpV_range ⟨vk, vb, vi, vs⟩ ⟨k, b, i, s⟩
    generalize hn : cmpV ⟨vk, vb, vi, vs⟩ ⟨k, b, i, s⟩ = n at HF hcr
    have HN := Lib.hid hn
    clear hn
    obtain ⟨hn0, hn1⟩ := hcr
    obtain ⟨hz, hT⟩ := hT
    have hTc := hT (o.toNat * 3 + (n + 1).toNat)
    generalize tabL.getD (o.toNat * 3 + (n + 1).toNat) false = B at HF hTc
    clear hT
    by_cases ho : 0 ≤ o ∧ o ≤ 5
    · obtain ⟨ho0, ho1⟩ := ho
      have hT := hTc (by omega)
      clear hTc
      have HF := HF.out
      rw [if_neg (by omega), if_neg (by omega), if_pos ⟨ho0, ho1⟩] at HF
      have HF := Lib.hid HF
      go_enter Tryd.func82, Tryd.ntmps82
      go_wp2_with fail
      refine (compareV ⟨vk, vb, vi, vs⟩ ⟨k, b, i, s⟩ _).mono ?_
      rintro e w1 ⟨rfl, hb⟩
      obtain ⟨hbc, hbf⟩ := bcell hb
      rw [HN.out]
      go_wp2_with (go_at_call 98; refine (full_any _ _ _ vk k _ (by go_simp) (by go_simp)).mono ?_; rintro e w' ⟨rfl, rfl⟩)
      go_ret
      exact ⟨ret_bool HF.out, ((Below.refl _ _).alloc (Nat.le_refl _) _).alloc (by simp) _ |>.trans (hb.mono (by simp; omega))⟩
    · clear hTc
      by_cases h6 : o = 6
      · subst h6
        have HF := HF.out
        rw [if_pos rfl] at HF
        have HF := Lib.hid HF
        go_enter Tryd.func82, Tryd.ntmps82
        go_wp2_with fail
        refine (compareV ⟨vk, vb, vi, vs⟩ ⟨k, b, i, s⟩ _).mono ?_
        rintro e w1 ⟨rfl, hb⟩
        obtain ⟨hbc, hbf⟩ := bcell hb
        go_wp2
        go_ret
        exact ⟨ret_bool HF.out, ((Below.refl _ _).alloc (Nat.le_refl _) _).alloc (by simp) _ |>.trans (hb.mono (by simp; omega))⟩
      · by_cases h7 : o = 7
        · subst h7
          have HF := HF.out
          rw [if_neg (by omega), if_pos rfl] at HF
          have HF := Lib.hid HF
          go_enter Tryd.func82, Tryd.ntmps82
          go_wp2_with fail
          refine (compareV ⟨vk, vb, vi, vs⟩ ⟨k, b, i, s⟩ _).mono ?_
          rintro e w1 ⟨rfl, hb⟩
          obtain ⟨hbc, hbf⟩ := bcell hb
          go_wp2
          go_ret
          exact ⟨ret_bool HF.out, ((Below.refl _ _).alloc (Nat.le_refl _) _).alloc (by simp) _ |>.trans (hb.mono (by simp; omega))⟩
        · have HF := HF.out
          rw [if_neg h6, if_neg h7, if_neg ho] at HF
          have HF := Lib.hid HF
          have h6b : (o == 6) = false := beq_eq_false_iff_ne.2 h6
          have h7b : (o == 7) = false := beq_eq_false_iff_ne.2 h7
          by_cases hneg : o < 0
          all_goals
            go_enter Tryd.func82, Tryd.ntmps82
            go_wp2_with fail
            refine (compareV ⟨vk, vb, vi, vs⟩ ⟨k, b, i, s⟩ _).mono ?_
            rintro e w1 ⟨rfl, hb⟩
            obtain ⟨hbc, hbf⟩ := bcell hb
            go_wp2
            go_ret
            exact ⟨ret_bool HF.out, ((Below.refl _ _).alloc (Nat.le_refl _) _).alloc (by simp) _ |>.trans (hb.mono (by simp; omega))⟩
  · have HF := Lib.hid (termB_out ⟨tc, o, ⟨k, b, i, s⟩⟩ row h0)
    by_cases hneg : tc < 0
    all_goals
      go_enter Tryd.func82, Tryd.ntmps82
      go_wp2
      go_ret
      exact ⟨ret_bool HF.out, (Below.refl _ _).alloc (Nat.le_refl _) _⟩

end Go.Proofs.YtihdlalbgdighaaDoor.Op
/- What the rows of the laws on terms share: the table out of the list of what is laid; how their arguments are opened. -/
namespace Go.Proofs.YtihdlalbgdighaaDoor.Op
open Go.RowKit Go.Proofs.YtihdlalbgdighaaDoorW.PrintWords
set_option linter.unusedVariables false

theorem tab_bools {H : Type} {enc : TypeId × Value → H} {P : Program} {w : World} {base : Nat} {sp : Nat → Bool} {held : Bool} {fuel : Nat} {t e b : TypeId} {n m : Nat} {cs : List Value} {rows : List (List Bool)} {p : List MemPlace}
    (ht : P.underlying t = some (.array n e)) (he : P.underlying e = some (.array m b)) (hb : P.underlying b = some .bool) (hcb : P.cellsOf b = 1) (hce : P.cellsOf e = m)
    (h : DataW.trod enc P w base sp held fuel t cs = some (.agg (rows.map fun r => .agg (r.map fun x => .lit (.bool x))), p)) :
    ∀ i r, rows[i]? = some r → ∀ j x, r[j]? = some x → cs[i * m + j]? = some (.bool x) := by
  intro i r hr j x hx
  obtain ⟨xs, k, rfl, hxs, hl, hxl, hget⟩ := DataW.trod_array ht h
  have hmap : rows.map (fun r => (DataW.agg (r.map fun x => .lit (.bool x)) : DataW H)) = xs.map (·.1) := by
    have := congrArg Prod.fst hxs
    simpa using this
  have hlen := congrArg List.length hmap
  simp only [List.length_map] at hlen
  have hi : i < rows.length := (List.getElem?_eq_some_iff.1 hr).1
  obtain ⟨y, hy⟩ : ∃ y, xs[i]? = some y := ⟨_, List.getElem?_eq_getElem (by omega)⟩
  have hy1 : y.1 = .agg (r.map fun x => .lit (.bool x)) := by
    have := congrArg (fun l => l[i]?) hmap
    simp only [List.getElem?_map, hr, hy, Option.map_some, Option.some.injEq] at this
    exact this.symm
  have h1 := hget i (by omega)
  rw [hy, hce] at h1
  obtain ⟨zs, k', rfl, hzs, hl', hzl, hget'⟩ := DataW.trod_array he h1
  have hmap' : r.map (fun x => (DataW.lit (.bool x) : DataW H)) = zs.map (·.1) := by
    have := congrArg Prod.fst hzs
    rw [hy1] at this
    simpa using this
  have hlen' := congrArg List.length hmap'
  simp only [List.length_map] at hlen'
  have hj : j < r.length := (List.getElem?_eq_some_iff.1 hx).1
  obtain ⟨z, hz⟩ : ∃ z, zs[j]? = some z := ⟨_, List.getElem?_eq_getElem (by omega)⟩
  have hz1 : z.1 = .lit (.bool x) := by
    have := congrArg (fun l => l[j]?) hmap'
    simp only [List.getElem?_map, hx, hz, Option.map_some, Option.some.injEq] at this
    exact this.symm
  have h2 := hget' j (by omega)
  rw [hz, hcb] at h2
  obtain ⟨v, hv, rfl⟩ := DataW.trod_bool hb h2
  have hvx : v = x := by simpa using hz1
  subst hvx
  have h3 := congrArg (·[0]?) hv
  have hjm : j < m := by omega
  simp only [List.getElem?_take, List.getElem?_drop, Nat.mul_one, Nat.add_zero, List.getElem?_cons_zero] at h3
  rw [if_pos (by omega), if_pos (by omega)] at h3
  exact h3

theorem tab_met {W : World} (h : laidMetH Tryd.prog [("hayloft/expr.orders", Rows.laid_hayloft_expr_orders)] W) : Tab W := by
  obtain ⟨ps, ⟨g', t', cs, fuel, p, q, hg', ht', hvar, hd, _, _⟩, _⟩ := (show laidMet Tryd.prog [("hayloft/expr.orders", Rows.laid_hayloft_expr_orders)] W from h)
  have hg : Tryd.prog.globalNamed "hayloft/expr.orders" = some 0 := by kernel_rfl
  have hty : (Tryd.prog.globals[0]?).map (·.type) = some 155 := by kernel_rfl
  obtain rfl := Option.some.inj (hg.symm.trans hg')
  obtain rfl := Option.some.inj (hty.symm.trans ht')
  have hb := tab_bools (rows := [[false, true, false], [true, false, true], [true, false, false], [true, true, false], [false, false, true], [false, true, true]]) Tryd.underlying155 Tryd.underlying154 Tryd.underlying4 (by kernel_rfl) (by kernel_rfl) hd
  have hc : ∀ i, W.cell? ⟨0, i, none⟩ = cs[i]? := fun i => World.var?_cell hg hvar i
  have cell : ∀ i, i < 18 → W.cell? ⟨0, i, none⟩ = some (.bool (tabL.getD i false)) := by
    intro i hi
    rw [hc, ← Array.getElem?_toList]
    have h18 : i = 0 ∨ i = 1 ∨ i = 2 ∨ i = 3 ∨ i = 4 ∨ i = 5 ∨ i = 6 ∨ i = 7 ∨ i = 8 ∨ i = 9 ∨ i = 10 ∨ i = 11 ∨ i = 12 ∨ i = 13 ∨ i = 14 ∨ i = 15 ∨ i = 16 ∨ i = 17 := by omega
    rcases h18 with rfl | rfl | rfl | rfl | rfl | rfl | rfl | rfl | rfl | rfl | rfl | rfl | rfl | rfl | rfl | rfl | rfl | rfl
    · exact hb 0 _ rfl 0 _ rfl
    · exact hb 0 _ rfl 1 _ rfl
    · exact hb 0 _ rfl 2 _ rfl
    · exact hb 1 _ rfl 0 _ rfl
    · exact hb 1 _ rfl 1 _ rfl
    · exact hb 1 _ rfl 2 _ rfl
    · exact hb 2 _ rfl 0 _ rfl
    · exact hb 2 _ rfl 1 _ rfl
    · exact hb 2 _ rfl 2 _ rfl
    · exact hb 3 _ rfl 0 _ rfl
    · exact hb 3 _ rfl 1 _ rfl
    · exact hb 3 _ rfl 2 _ rfl
    · exact hb 4 _ rfl 0 _ rfl
    · exact hb 4 _ rfl 1 _ rfl
    · exact hb 4 _ rfl 2 _ rfl
    · exact hb 5 _ rfl 0 _ rfl
    · exact hb 5 _ rfl 1 _ rfl
    · exact hb 5 _ rfl 2 _ rfl
  exact ⟨World.block_lt_of_cell? W _ (cell 0 (by omega)), cell⟩

/-- A WORLD FOR THE WITNESS: the settled one, the table holding what its initialiser lays. -/
noncomputable def laidWorld (os : Os) : World :=
  { World.holding Tryd.prog os ⟨#[], #[], []⟩ with heap := (World.holding Tryd.prog os ⟨#[], #[], []⟩).heap.modify 0 fun
      | .cells _ t frozen => .cells (tabL.map Value.bool).toArray t frozen
      | o => o }

end Go.Proofs.YtihdlalbgdighaaDoor.Op
/- An iterator that ranges over another one and hands out rows of its own: what lies between its consumer's rounds (it may write its own boxes Z), and one round's yield. -/
namespace Go.Proofs.YtihdlalbgdighaaDoor.QV
open Go Go.RowKit Go.Proofs.YtihdlalbgdighaaDoorW.PrintWords Go.Proofs.YtihdlalbgdighaaDoor.Seq
set_option linter.unusedVariables false

/-- The consumer, as SeqOf tells it. -/
structure Cons (P : Program) (w W : World) (l : Nat) (J Jx : List Row → (Nat → Prop) → World → Prop) (Mc : Nat → Prop) (out : List Row) : Prop where
  hW : Below w.heap.size w W
  hM : ∀ i, Mc i → w.heap.size ≤ i ∧ i < W.heap.size
  hJ : ∀ pre M A B, J pre M A → Kpt (fun i => W.heap.size ≤ i ∧ ¬ M i) A B → J pre M B
  hJx : ∀ pre M A B, Jx pre M A → Kpt (fun i => W.heap.size ≤ i ∧ ¬ M i) A B → Jx pre M B
  hY : ∀ pre x vs N A M, J pre M A → (pre ++ [x]) <+: out → RdNew w A N x vs → (∀ i, M i → w.heap.size ≤ i ∧ i < A.heap.size) → (∀ i, N i → W.heap.size ≤ i ∧ i < A.heap.size ∧ ¬ M i) → W.heap.size ≤ A.heap.size →
      YieldAt Fence.wide 0 P l vs A fun e B => ∃ M', (∀ i, M' i → (M i ∨ N i ∨ A.heap.size ≤ i) ∧ i < B.heap.size) ∧ Kpt (fun i => M i ∨ N i) A B ∧
        ((e = .returned (.bool true) ∧ J (pre ++ [x]) M' B) ∨ (e = .returned (.bool false) ∧ Jx (pre ++ [x]) M' B))

def J3 (J : List Row → (Nat → Prop) → World → Prop) (Mc Z : Nat → Prop) (W W2 : World) (xs : List Row) (Mh : Nat → Prop) (A : World) : Prop :=
  ∃ Mj, J xs Mj A ∧ (∀ i, Mh i ↔ (Mj i ∨ (W.heap.size ≤ i ∧ i < W2.heap.size))) ∧ (∀ i, Mj i → (Mc i ∨ W2.heap.size ≤ i) ∧ i < A.heap.size) ∧ Kpt (fun i => Mc i ∨ Z i) W2 A
section
variable {J : List Row → (Nat → Prop) → World → Prop} {Mc Z Mh : Nat → Prop} {W W2 A B : World} {xs : List Row} {D : Nat} {o : Obj}
theorem J3.kept (hJ : ∀ pre M A B, J pre M A → Kpt (fun i => W.heap.size ≤ i ∧ ¬ M i) A B → J pre M B) (hz : W.heap.size ≤ W2.heap.size) (h : J3 J Mc Z W W2 xs Mh A) (hk : Kpt (fun i => W2.heap.size ≤ i ∧ ¬ Mh i) A B) : J3 J Mc Z W W2 xs Mh B := by
  obtain ⟨Mj, h1, h2, h3, h4⟩ := h
  refine ⟨Mj, hJ _ _ _ _ h1 (hk.mono (fun i _ h => ⟨by omega, fun k => h.2 ((h2 i).2 (.inl k))⟩)), h2, fun i hi => ⟨(h3 i hi).1, Nat.lt_of_lt_of_le (h3 i hi).2 hk.size⟩, h4.trans hk (fun i hi h => ?_)⟩
  rcases h with h | h
  · exact h
  · omega
theorem J3.ends (hJ : ∀ pre M A B, J pre M A → Kpt (fun i => W.heap.size ≤ i ∧ ¬ M i) A B → J pre M B) (hMc : ∀ i, Mc i → i < W.heap.size) (hZ : ∀ i, Z i → W.heap.size ≤ i ∧ i < W2.heap.size) (hBW : Below W.heap.size W W2) (h : J3 J Mc Z W W2 xs Mh A) (hD : W.heap.size ≤ D) (hDM : W2.heap.size ≤ D → ¬ Mh D) :
    ∃ M', (∀ i, M' i → (Mc i ∨ W.heap.size ≤ i) ∧ i < (A.putObj D o).heap.size) ∧ Kpt Mc W (A.putObj D o) ∧ J xs M' (A.putObj D o) := by
  obtain ⟨Mj, h1, h2, h3, h4⟩ := h
  have hz := hBW.size
  have hp : Kpt (fun i => i = D) A (A.putObj D o) := Kpt.putObj A D o
  refine ⟨Mj, fun i hi => ⟨by rcases (h3 i hi).1 with h | h; exact .inl h; exact .inr (by omega), Nat.lt_of_lt_of_le (h3 i hi).2 hp.size⟩, ?_, hJ _ _ _ _ h1 (hp.mono (fun i _ e => ?_))⟩
  · exact ((Kpt.of_new Mc hBW).trans h4 (M := Mc) (fun i hi h => by
      rcases h with h | h | h
      · exact h
      · exact h
      · have := hZ i h; omega)).trans hp (fun i hi h => by
      rcases h with h | h
      · exact h
      · omega)
  · rw [e]
    refine ⟨hD, fun k => ?_⟩
    rcases Nat.lt_or_ge D W2.heap.size with hl | hl
    · rcases (h3 D k).1 with z | z
      · have := hMc D z; omega
      · omega
    · exact hDM hl ((h2 D).2 (.inl k))
theorem J3.size (h : J3 J Mc Z W W2 xs Mh A) : W2.heap.size ≤ A.heap.size := by
  obtain ⟨Mj, h1, h2, h3, h4⟩ := h
  exact h4.size
theorem J3.below {w : World} (hM : ∀ i, Mc i → w.heap.size ≤ i) (hZ : ∀ i, Z i → w.heap.size ≤ i) (hw : w.heap.size ≤ W2.heap.size) (h : J3 J Mc Z W W2 xs Mh A) : Below w.heap.size W2 A := by
  obtain ⟨Mj, h1, h2, h3, h4⟩ := h
  exact h4.below hw (fun i _ h => h.elim (hM i) (hZ i))
end
/-- ONE ROUND'S YIELD of a row of the iterator's own, y, that it made since A. -/
theorem J3.yield {P : Program} {w W : World} {l : Nat} {J Jx : List Row → (Nat → Prop) → World → Prop} {Mc Z Mh : Nat → Prop} {out ys : List Row} {W2 A B : World} {v : Value} {y : Row} (c : Cons P w W l J Jx Mc out)
    (hz : W.heap.size ≤ W2.heap.size) (h : J3 J Mc Z W W2 ys Mh A) (hAB : Below A.heap.size A B) (hR : kS.R tS B A.heap.size (fun _ => True) v y) (hpre : (ys ++ [y]) <+: out) :
    YieldAt Fence.wide 0 P l #[v] B fun e C => ∃ M', (∀ i, M' i → (Mh i ∨ A.heap.size ≤ i) ∧ i < C.heap.size) ∧ Kpt Mh A C ∧ Kpt (fun i => Mc i ∨ W2.heap.size ≤ i) A C ∧
      ((e = .returned (.bool true) ∧ J3 J Mc Z W W2 (ys ++ [y]) M' C) ∨ (e = .returned (.bool false) ∧ J3 Jx Mc Z W W2 (ys ++ [y]) M' C)) := by
  have hzA := h.size
  obtain ⟨Mj, h1, h2, h3, h4⟩ := h
  have hsB := hAB.size
  have hwW := c.hW.size
  refine (c.hY ys y #[v] (fun i => A.heap.size ≤ i ∧ i < B.heap.size) B Mj (c.hJ _ _ _ _ h1 (Kpt.of_new _ hAB)) hpre
    ⟨v, rfl, Kd.R_lower (Kd.R_mono (Kd.R_bound hR) (fun i hi => ⟨hi.2.1, hi.2.2.1⟩)) (by omega), fun i hi => hi.2⟩
    (fun i hi => ⟨by rcases (h3 i hi).1 with k | k; exact (c.hM i k).1; omega, Nat.lt_of_lt_of_le (h3 i hi).2 hsB⟩) (fun i hi => ⟨by omega, hi.2, fun k => by have := (h3 i k).2; omega⟩) (by omega)).mono ?_
  rintro e C ⟨M9, hM9, hk9, hh⟩
  have hsC := hk9.size
  have hKA : Kpt Mj A C := (Kpt.of_new Mj hAB).trans hk9 (fun i hi k => by
    rcases k with k | k | k
    · exact k
    · exact k
    · omega)
  refine ⟨fun i => M9 i ∨ (W.heap.size ≤ i ∧ i < W2.heap.size), fun i hi => ?_, hKA.mono (fun i _ k => (h2 i).2 (.inl k)), hKA.mono (fun i _ k => (h3 i k).1), ?_⟩
  · rcases hi with k | k
    · refine ⟨?_, (hM9 i k).2⟩
      rcases (hM9 i k).1 with z | z | z
      · exact .inl ((h2 i).2 (.inl z))
      · exact .inr z.1
      · exact .inr (by omega)
    · exact ⟨.inl ((h2 i).2 (.inr k)), by omega⟩
  · have fin : ∀ JJ : List Row → (Nat → Prop) → World → Prop, JJ (ys ++ [y]) M9 C → J3 JJ Mc Z W W2 (ys ++ [y]) (fun i => M9 i ∨ (W.heap.size ≤ i ∧ i < W2.heap.size)) C := fun JJ hj =>
      ⟨M9, hj, fun i => Iff.rfl, fun i hi => ⟨by
        rcases (hM9 i hi).1 with z | z | z
        · exact (h3 i z).1
        · exact .inr (by omega)
        · exact .inr (by omega), (hM9 i hi).2⟩, h4.trans hKA (fun i hi k => by
        rcases k with k | k
        · exact k
        · rcases (h3 i k).1 with z | z
          · exact .inl z
          · omega)⟩
    rcases hh with ⟨he, hj⟩ | ⟨he, hj⟩
    · exact .inl ⟨he, fin _ hj⟩
    · exact .inr ⟨he, fin _ hj⟩
end Go.Proofs.YtihdlalbgdighaaDoor.QV
/- hayloftlaw15.alive. -/
namespace Go.Proofs.YtihdlalbgdighaaDoor.QV
open Go.RowKit Go.Proofs.YtihdlalbgdighaaDoorW.PrintWords Go.Proofs.YtihdlalbgdighaaDoor.Seq Go.Shelf Go.Proofs.YtihdlalbgdighaaDoor.Op
set_option linter.unusedVariables false
set_option linter.unusedSimpArgs false

theorem C_one {α : Type} (d : Kd α) (w : World) (g : Nat) (x : α) (cs : List Value) (hK : d.K w x cs) (hc : ∀ i u, cs[i]? = some u → w.cell? ⟨g, i, none⟩ = some u) : d.C w (some ⟨g, 0, none⟩) 1 [x] := by
  refine ⟨rfl, by decide, fun _ => ⟨_, rfl, fun j p hj => ?_⟩⟩
  match j with
  | 0 =>
    simp at hj
    subst hj
    exact ⟨cs, d.K_len hK, hK, fun i u hu => by
      have := hc i u hu
      by_cases h0 : i = 0
      · subst h0; simpa [Addr.add] using this
      · simpa [Addr.add, h0] using this⟩
  | j + 1 => simp at hj
theorem IsSeq.form {w : World} {sv : Value} {xs : List Row} (h : IsSeq w sv xs) : ∃ g lb, sv = .func (.func g) #[] lb := by
  obtain ⟨g, lb, _, h, _⟩ := h
  exact ⟨g, lb, h⟩
end Go.Proofs.YtihdlalbgdighaaDoor.QV
/- Kinds of structs that the print of this seat has not written, as the print spells kinds. -/
namespace Go.Proofs.YtihdlalbgdighaaDoor.QV
open Go.RowKit Go.Proofs.YtihdlalbgdighaaDoorW.PrintWords
set_option linter.unusedVariables false
structure S109 where
  f0 : Int
  f1 : Int
  f2 : S61
def k109 : Kd S109 := Kd.iso (Kd.pair (Kd.int .i64) (Kd.pair (Kd.int .i64) k61)) (fun x : S109 => (x.f0, x.f1, x.f2))
theorem k109_open {w : World} {x : S109} {cs : List Value} (h : k109.K w x cs) : cs = [.int .i64 x.f0, .int .i64 x.f1, .int .i64 x.f2.f0, .bool x.f2.f1, .int .i64 x.f2.f2, .string x.f2.f3] := by
  obtain ⟨_, _, rfl, rfl, ⟨_, _, rfl, rfl, h⟩⟩ := h
  rw [k61_open h]
  rfl
theorem k109_mkM (w : World) (base : Nat) (ok : Nat → Prop) (x : S109) : k109.M w base ok x [.int .i64 x.f0, .int .i64 x.f1, .int .i64 x.f2.f0, .bool x.f2.f1, .int .i64 x.f2.f2, .string x.f2.f3] := ⟨[_], _, rfl, rfl, [_], _, rfl, rfl, k61_mkM w base ok x.f2⟩
structure S97 where
  f0 : Int
  f1 : Bool
def z97 : S97 := ⟨0, false⟩
def k97 : Kd S97 := Kd.iso (Kd.pair (Kd.int .i64) Kd.bool) (fun x : S97 => (x.f0, x.f1))
theorem k97_open {w : World} {x : S97} {cs : List Value} (h : k97.K w x cs) : cs = [.int .i64 x.f0, .bool x.f1] := by
  obtain ⟨_, _, rfl, rfl, rfl⟩ := h
  exact rfl
end Go.Proofs.YtihdlalbgdighaaDoor.QV
/- All terms of a list; what the law calls 'alive'. -/
namespace Go.Proofs.YtihdlalbgdighaaDoor.Op
open Go.RowKit Go.Proofs.YtihdlalbgdighaaDoorW.PrintWords
set_option linter.unusedVariables false

def allB (l : List T) (row : List V) : Bool := l.all fun t => termB t row
theorem allB_no {l : List T} {row : List V} {k : Nat} (hk : k < l.length) (h : termB (l.getD k T.z) row = false) : allB l row = false := by
  unfold allB
  rw [List.all_eq_false]
  refine ⟨l[k], List.getElem_mem hk, ?_⟩
  rw [List.getD_eq_getElem?_getD, List.getElem?_eq_getElem hk] at h
  simpa using h
theorem allB_yes {l : List T} {row : List V} (h : ∀ j, j < l.length → termB (l.getD j T.z) row = true) : allB l row = true := by
  unfold allB
  rw [List.all_eq_true]
  intro x hx
  obtain ⟨j, hj, rfl⟩ := List.getElem_of_mem hx
  have := h j hj
  rwa [List.getD_eq_getElem?_getD, List.getElem?_eq_getElem hj] at this

set_option maxHeartbeats 2000000 in
theorem all_any (Al : Option Addr) (l : List T) (cl : Nat) (A : Option Addr) (row : List V) (c : Nat) (w : World) (hl : kT.C w Al l.length l) (hcl : l.length ≤ cl) (hr : kV.C w A row.length row) (hc : row.length ≤ c) (hT : Tab w) :
    Calls Tryd.prog 52 #[.slice Al l.length cl, .slice A row.length c] w fun e w' => e = .returned (.bool (allB l row)) ∧ Below w.heap.size w w' := by
  have hml := hl.2.1
  have hm := hr.2.1
  go_enter Tryd.func52, Tryd.ntmps52
  go_wp2
  go_loopw [9] (fun i wr => ∃ k : Nat, i = .int .i64 k ∧ k ≤ l.length ∧ (∀ j, j < k → termB (l.getD j T.z) row = true) ∧ Below w.heap.size w wr) (fun i _ => l.length - (intOf i).toNat)
  case atStart => exact ⟨0, rfl, Nat.zero_le _, fun _ h => by omega, Below.refl _ _⟩
  case round =>
    obtain ⟨k, rfl, hk, hall, hB⟩ := hrel
    have HA := Lib.hid hall
    clear hall
    by_cases hlt : k < l.length
    · obtain ⟨ad, rfl, hv⟩ := kT_at (Kd.C_below hl hB) k hlt
      generalize hx : l.getD k T.z = x at hv
      have HX := Lib.hid hx
      clear hx
      obtain ⟨tc, o, ⟨k', b, i, s⟩⟩ := x
      obtain ⟨hblt, hv0, hv1, hv2, hv3, hv4, hv5⟩ := hv
      simp only at hv0 hv1 hv2 hv3 hv4 hv5
      cases htb : termB ⟨tc, o, ⟨k', b, i, s⟩⟩ row
      all_goals
        have HTB := Lib.hid htb
        clear htb
        go_wp2_with fail
        refine (term_any ⟨tc, o, ⟨k', b, i, s⟩⟩ A row c _ (Kd.C_below hr (below_alloc hB _)) hc (hT.below (below_alloc hB _))).mono ?_
        rintro e w1 ⟨rfl, hb⟩
        rw [HTB.out]
        have hB1 : Below w.heap.size w w1 := (below_alloc hB _).trans (hb.mono (by have := hB.size; simp; omega))
        clear hb
        go_wp2
      · go_ret
        refine ⟨ret_bool (allB_no hlt (by rw [HX.out]; exact HTB.out)), hB1⟩
      · go_roundw
        case rel =>
          refine ⟨k + 1, by go_num, by omega, fun j hj => ?_, hB1⟩
          rcases Nat.lt_or_ge j k with hjk | hjk
          · exact HA.out j hjk
          · obtain rfl : j = k := by omega
            rw [HX.out]; exact HTB.out
        case measure => simp [intOf]; omega
    · obtain rfl : k = l.length := by omega
      go_wp2
      go_ret
      exact ⟨ret_bool (allB_yes HA.out), hB⟩

end Go.Proofs.YtihdlalbgdighaaDoor.Op
/- Contracts of layer 14 that were proved by hand, in the print's form. -/
namespace Go.Proofs.YtihdlalbgdighaaDoor.QV
open Go.RowKit Go.Proofs.YtihdlalbgdighaaDoorW.PrintWords Go.Proofs.YtihdlalbgdighaaDoor.Op
set_option linter.unusedVariables false
def toT (x : S109) : T := ⟨x.f0, x.f1, toV x.f2⟩
theorem C_toT {w : World} {A : Option Addr} {xs : List S109} (h : Kd.C k109 w A xs.length xs) : Kd.C kT w A (xs.map toT).length (xs.map toT) := by
  rw [List.length_map]
  exact C_map toT rfl (fun _ _ _ hk => hk) h
/-- Are all terms true of a row? -/
def allS (l : List S109) (x : List S61) : Bool := allB (l.map toT) (x.map toV)
theorem allS_any (A0 : Option Addr) (c0 : Nat) (l0 : List (S109)) (A1 : Option Addr) (c1 : Nat) (l1 : List (S61)) (w : World) (hr0 : Kd.C k109 w A0 l0.length l0) (hc0 : l0.length ≤ c0) (hr1 : Kd.C k61 w A1 l1.length l1) (hc1 : l1.length ≤ c1) (hT : Tab w) :
    Calls Tryd.prog 52 #[.slice A0 l0.length c0, .slice A1 l1.length c1] w fun e w' => e = .returned (.bool (allS l0 l1)) ∧ Below w.heap.size w w' := by
  have := Op.all_any A0 (l0.map toT) c0 A1 (l1.map toV) c1 w (C_toT hr0) (by simpa using hc0) (C_toV hr1) (by simpa using hc1) hT
  rw [List.length_map, List.length_map] at this
  exact this
end Go.Proofs.YtihdlalbgdighaaDoor.QV
/- exec.Filter: what its iterator gives. -/
namespace Go.Proofs.YtihdlalbgdighaaDoor.QV
open Go.RowKit Go.Proofs.YtihdlalbgdighaaDoorW.PrintWords Go.Proofs.YtihdlalbgdighaaDoor.Seq Go.Shelf Go.Proofs.YtihdlalbgdighaaDoor.Op
set_option linter.unusedVariables false
set_option maxRecDepth 100000
set_option linter.unusedSimpArgs false
attribute [local go_sem] Oper.semAt_some
abbrev kTm : Kd S109 := k109

set_option maxRecDepth 100000 in
set_option maxHeartbeats 4000000 in
theorem filter_seq (xs : List Row) (ts : List S109) (At : Option Addr) (ct : Nat) (sv : Value) (b1 b2 : Nat) (w : World) (hR : IsSeq w sv xs)
    (h1 : w.cell? ⟨b1, 0, none⟩ = some sv) (h2 : w.cell? ⟨b2, 0, none⟩ = some (.slice At ts.length ct)) (hts : kTm.C w At ts.length ts) (hct : ts.length ≤ ct) (hT : Tab w)
    (hb : ∀ x ∈ xs, x.length ≤ 1048576) :
    SeqOf Tryd.prog 51 #[.pointer (some ⟨b1, 0, none⟩), .pointer (some ⟨b2, 0, none⟩)] (RdNew w) (xs.filter (allS ts)) w := by
  intro l J Jx W Mc hW hMc hJ hJx hY h0
  have hcons : Cons Tryd.prog w W l J Jx Mc (xs.filter (allS ts)) := ⟨hW, hMc, hJ, hJx, hY⟩
  have hzw : w.heap.size ≤ W.heap.size := hW.size
  obtain ⟨gR, lbR, RdR, rfl, egR, hsR, hkR, hrR⟩ := hR
  refine (callsIn_wide (n := 0)).1 (callsIn_of_wp_marks Tryd.func51 rfl trivial ?_ rfl)
  simp only [Tryd.ntmps51, List.size_toArray, List.length_cons, List.length_nil, Nat.reduceAdd, Nat.reduceSub, Array.replicate_succ, Array.replicate_zero, List.push_toArray, List.append_toArray, List.nil_append, List.cons_append]
  have d1 : (W.alloc (.cells #[.func (.yield l) #[] #[]] 102)).cell? ⟨b1, 0, none⟩ = some (.func (.func gR) #[] lbR) := pw_cell_below (hW.trans ((below_alloc (Below.refl _ _) _).mono hzw)) h1
  gi_wp2
  obtain ⟨W1, hW1⟩ : ∃ W1, W.alloc (.cells #[.func (.yield l) #[] #[]] 102) = W1 := ⟨_, rfl⟩
  have hbW1 : Below W.heap.size W W1 := by rw [← hW1]; exact below_alloc (Below.refl _ _) _
  have hszW1 : W1.heap.size = W.heap.size + 1 := by rw [← hW1]; simp
  have hx3 : W1.heap[W.heap.size]? = some (.cells #[.func (.yield l) #[] #[]] 102 (0, 0)) := by rw [← hW1]; exact blk_new _ _
  rw [hW1]
  clear hW1 d1
  have hMcW : ∀ i, Mc i → i < W.heap.size := fun i h => (hMc i h).2
  have hbw1 : Below w.heap.size w W1 := hW.trans (hbW1.mono hzw)
  have hz1 : W.heap.size ≤ W1.heap.size := by omega
  refine wpIn_range (gf := gR) (lb := lbR) rfl egR hsR hbw1 (fun A N x vs h => by obtain ⟨Ad, c, rfl, _⟩ := hrR _ _ _ _ h; rfl) hkR
    (fun pre => J3 J Mc (fun _ => False) W W1 (pre.filter (allS ts))) (fun c pre Mh A => c = .ret ∧ ∃ y, y <+: xs.filter (allS ts) ∧ J3 Jx Mc (fun _ => False) W W1 y Mh A) (fun pre M A B h hk => h.kept hJ hz1 hk) (fun c pre M A B h hk => by obtain ⟨e, y, hy, h⟩ := h; exact ⟨e, y, hy, h.kept hJx hz1 hk⟩)
    (fun i => Mc i ∨ (W.heap.size ≤ i ∧ i < W1.heap.size)) ?hM2 ?h02 (fun x vs a₁ M A => ∃ v, vs = #[v] ∧ a₁ = { tmps := #[.func (.yield l) #[] #[], .pointer (some ⟨b1, 0, none⟩), .pointer (some ⟨b2, 0, none⟩), .pointer (some ⟨W.heap.size, 0, none⟩), v, .func (.func gR) #[] lbR, v] ++ Array.replicate 10 undef, defers := [] })
    (fun _ _ _ _ _ _ h _ => h) ?assign2 ?body2 ?done2 ?stop2
  case hM2 => intro i hi; rcases hi with h | h; have := hMc i h; omega; omega
  case h02 => exact ⟨Mc, hJ _ _ _ _ h0 (Kpt.of_new _ hbW1), fun i => Iff.rfl, fun i hi => ⟨.inl hi, by have := hMc i hi; omega⟩, Kpt.refl _ _⟩
  case assign2 =>
    intro l2 pre x vs N A M hI hpre hrd hM hN
    obtain ⟨Ad, c, rfl, hle, hC⟩ := hrR _ _ _ _ hrd
    gi_wp2
    refine ⟨M, fun i hi => ⟨.inl hi, (hM i hi).2⟩, Kpt.refl _ _, hI, _, rfl, ?_⟩
    simp only [List.size_toArray, List.length_cons, List.length_nil, Nat.reduceAdd, Nat.reduceSub, Array.replicate_succ, Array.replicate_zero, List.push_toArray, List.append_toArray, List.nil_append, List.cons_append]
  case body2 =>
    intro l2 pre x vs N A Mh a₁ hI hpre hrd hax hM hN
    obtain ⟨v, rfl, rfl⟩ := hax
    simp only [List.size_toArray, List.length_cons, List.length_nil, Nat.reduceAdd, Nat.reduceSub, Array.replicate_succ, Array.replicate_zero, List.push_toArray, List.append_toArray, List.nil_append, List.cons_append]
    obtain ⟨Ad, c, hvv, hle, hC⟩ := hrR _ _ _ _ hrd
    obtain rfl : v = .slice Ad x.length c := by simpa using hvv
    clear hvv
    have hx1 := hb x (hpre.subset (by simp))
    have hzA := hI.size
    have hbA : Below w.heap.size w A := hbw1.trans (hI.below (fun i h => (hMc i h).1) (fun _ h => h.elim) hbw1.size)
    have hKA : Kpt (fun i => Mc i ∨ False) W1 A := by obtain ⟨_, _, _, _, h⟩ := hI; exact h
    have hxA : A.heap[W.heap.size]? = some (.cells #[.func (.yield l) #[] #[]] 102 (0, 0)) := hKA.at hx3 (fun h => by rcases h with h | h; have := hMcW _ h; omega; exact h)
    have hlxA := blk_lt hxA
    have hsn := filter_snoc (allS ts) pre x
    have keep : ∀ V, Kpt (fun i => Mc i ∨ W1.heap.size ≤ i) A V → V.cell? ⟨b2, 0, none⟩ = some (.slice At ts.length ct) ∧ V.cell? ⟨W.heap.size, 0, none⟩ = some (.func (.yield l) #[] #[]) := fun V hV =>
      ⟨pw_cell_below (hbA.trans (hV.below hbA.size (fun i _ h => by rcases h with h | h; exact (hMc i h).1; omega))) h2, blk_cell (hV.at hxA (fun h => by rcases h with h | h; have := hMcW _ h; omega; omega)) 0⟩
    have kb : ∀ V, Below A.heap.size A V → Kpt (fun i => Mc i ∨ W1.heap.size ≤ i) A V := fun V hV => Kpt.of_new _ hV
    gi_wp2
    refine wpIn_region_R 10 (S := fun V => V.cell? ⟨b2, 0, none⟩ = some (.slice At ts.length ct) ∧ V.cell? ⟨W.heap.size, 0, none⟩ = some (.func (.yield l) #[] #[])) (by kernel_rfl) (keep _ (kb _ (below_drew (Below.refl _ _)))) (fun hS0 => ?_)
    refine wpAnyR_take (i := 0) (oi := ⟨some 7, _, _, _, _, _⟩) (v := ?_) (by kernel_rfl) (by kernel_rfl) rfl (by kernel_rfl) (by kernel_rfl) (by kernel_rfl) (fun _ _ _ h => h) (Or.inl ⟨by rfl, ?_⟩) (by assumption) ?_
    rotate_left
    · intro w hSw; (try dsimp only at hSw); (try go_split_ands); go_simp; (try (with_reducible rfl))
    (try simp only [Act.put, List.setIfInBounds_toArray, List.set_cons_zero, List.set_cons_succ])
    refine wpAnyR_take (i := 1) (oi := ⟨some 8, _, _, _, _, _⟩) (v := ?_) (by kernel_rfl) (by kernel_rfl) rfl (by kernel_rfl) (by kernel_rfl) (by kernel_rfl) (fun _ _ _ h => h) (Or.inl ⟨by rfl, ?_⟩) (by assumption) ?_
    rotate_left
    · intro w hSw; (try dsimp only at hSw); (try go_split_ands); go_simp; (try (with_reducible rfl))
    (try simp only [Act.put, List.setIfInBounds_toArray, List.set_cons_zero, List.set_cons_succ])
    refine wpAnyR_one (i := 2) (o := ⟨some 9, _, _, _, _, _⟩) (by kernel_rfl) (by kernel_rfl) rfl (fun K hK => ?_)
    go_simp
    have hbd : Below w.heap.size w A.drew := hbA.trans ((below_drew (Below.refl _ A)).mono hbA.size)
    refine (allS_any At ct ts Ad c x A.drew (Kd.C_below hts hbd) hct (Kd.C_drew hC) hle (hT.below hbd)).mono ?_
    rintro e W2 ⟨rfl, hb2⟩
    have hb2A : Below A.heap.size A W2 := (below_drew (Below.refl _ A)).trans hb2
    (try dsimp only)
    have hS2 := keep _ (kb _ hb2A)
    refine hK.out _ _ (.inr hS2) ?_
    clear hK K
    cases hal : allS ts x with
    | true =>
      (try simp only [Act.put, List.setIfInBounds_toArray, List.set_cons_zero, List.set_cons_succ])
      refine wpAnyR_take (i := 3) (oi := ⟨some 10, _, _, _, _, _⟩) (v := ?_) (by kernel_rfl) (by kernel_rfl) rfl (by kernel_rfl) (by kernel_rfl) (by kernel_rfl) (fun _ _ _ h => h) (Or.inl ⟨by rfl, ?_⟩) (by assumption) ?_
      rotate_left
      · intro w hSw; (try dsimp only at hSw); (try go_split_ands); go_simp; (try (with_reducible rfl))
      (try simp only [Act.put, List.setIfInBounds_toArray, List.set_cons_zero, List.set_cons_succ])
      refine wpAnyR_take (i := 4) (oi := ⟨some 11, _, _, _, _, _⟩) (v := ?_) (by kernel_rfl) (by kernel_rfl) rfl (by kernel_rfl) (by kernel_rfl) (by kernel_rfl) (fun _ _ _ h => h) (Or.inl ⟨by rfl, ?_⟩) (by assumption) ?_
      rotate_left
      · intro w hSw; (try dsimp only at hSw); (try go_split_ands); go_simp; (try (with_reducible rfl))
      (try simp only [Act.put, List.setIfInBounds_toArray, List.set_cons_zero, List.set_cons_succ])
      refine wpAnyR_take (i := 5) (oi := ⟨some 12, _, _, _, _, _⟩) (v := ?_) (by kernel_rfl) (by kernel_rfl) rfl (by kernel_rfl) (by kernel_rfl) (by kernel_rfl) (fun _ _ _ h => h) (Or.inl ⟨by rfl, ?_⟩) (by assumption) ?_
      rotate_left
      · intro w hSw; (try dsimp only at hSw); (try go_split_ands); go_simp; (try (with_reducible rfl))
      (try simp only [Act.put, List.setIfInBounds_toArray, List.set_cons_zero, List.set_cons_succ])
      refine wpAnyR_one (i := 6) (o := ⟨some 13, _, _, _, _, _⟩) (by kernel_rfl) (by kernel_rfl) rfl (fun K hK => ?_)
      go_simp
      refine (clone_any Ad x c W2 (Kd.C_below hC hb2A) hle (by omega)).mono ?_
      rintro e W3 ⟨v3, rfl, hR3, hb3⟩
      have hb3A : Below A.heap.size A W3 := hb2A.trans (hb3.mono hb2A.size)
      have hS3 := keep _ (kb _ hb3A)
      refine hK.out _ _ (.inr hS3) ?_
      clear hK K
      (try simp only [Act.put, List.setIfInBounds_toArray, List.set_cons_zero, List.set_cons_succ])
      rw [hal, if_pos rfl] at hsn
      have hpp : (pre ++ [x]).filter (allS ts) <+: xs.filter (allS ts) := hpre.filter _
      rw [hsn] at hpp
      obtain ⟨fn, tmps, assign, body, hy, hRn⟩ := hI.yield hcons hz1 hb3A (Kd.R_lower hR3 hb2A.size) hpp
      refine wpAnyR_oneIn (i := 7) (o := ⟨some 14, _, _, _, _, _⟩) (by kernel_rfl) rfl (fun K hK => ?_)
      rw [if_pos (by rfl)]
      refine ⟨fun _ _ => trivial, ?_⟩
      go_simp
      refine ⟨rfl, round_in _ (hRn.mono ?_)⟩
      rintro e W4 ⟨M4, hM4, hk4, hk4', (⟨rfl, hJ4⟩ | ⟨rfl, hJ4⟩)⟩
      · have hS4 := keep _ hk4'
        refine hK.out _ _ (.inr hS4) ?_
        clear hK K
        (try simp only [Act.put, List.setIfInBounds_toArray, List.set_cons_zero, List.set_cons_succ])
        refine wpAnyR_take (i := 8) (oi := ⟨some 15, _, _, _, _, _⟩) (v := ?_) (by kernel_rfl) (by kernel_rfl) rfl (by kernel_rfl) (by kernel_rfl) (by kernel_rfl) (fun _ _ _ h => h) (Or.inl ⟨by rfl, ?_⟩) (by assumption) ?_
        rotate_left
        · intro w hSw; (try dsimp only at hSw); (try go_split_ands); go_simp; (try (with_reducible rfl))
        (try simp only [Act.put, List.setIfInBounds_toArray, List.set_cons_zero, List.set_cons_succ])
        refine wpAnyR_take (i := 9) (oi := ⟨some 16, _, _, _, _, _⟩) (v := ?_) (by kernel_rfl) (by kernel_rfl) rfl (by kernel_rfl) (by kernel_rfl) (by kernel_rfl) (fun _ _ _ h => h) (Or.inl ⟨by rfl, ?_⟩) (by assumption) ?_
        rotate_left
        · intro w hSw; (try dsimp only at hSw); (try go_split_ands); go_simp; (try (with_reducible rfl))
        (try simp only [Act.put, List.setIfInBounds_toArray, List.set_cons_zero, List.set_cons_succ])
        refine wpAnyR_done (by kernel_rfl) ?_ _
        gi_wp2
        refine ⟨M4, fun i hi => ⟨by rcases (hM4 i hi).1 with h | h; exact .inl h; exact .inr (.inr h), (hM4 i hi).2⟩, hk4.mono (fun _ _ h => .inl h), ?_⟩
        show J3 J Mc _ W W1 ((pre ++ [x]).filter (allS ts)) M4 W4
        rw [hsn]
        exact hJ4
      · have hS4 := keep _ hk4'
        refine hK.out _ _ (.inr hS4) ?_
        clear hK K
        (try simp only [Act.put, List.setIfInBounds_toArray, List.set_cons_zero, List.set_cons_succ])
        refine wpAnyR_take (i := 8) (oi := ⟨some 15, _, _, _, _, _⟩) (v := ?_) (by kernel_rfl) (by kernel_rfl) rfl (by kernel_rfl) (by kernel_rfl) (by kernel_rfl) (fun _ _ _ h => h) (Or.inl ⟨by rfl, ?_⟩) (by assumption) ?_
        rotate_left
        · intro w hSw; (try dsimp only at hSw); (try go_split_ands); go_simp; (try (with_reducible rfl))
        (try simp only [Act.put, List.setIfInBounds_toArray, List.set_cons_zero, List.set_cons_succ])
        refine wpAnyR_take (i := 9) (oi := ⟨some 16, _, _, _, _, _⟩) (v := ?_) (by kernel_rfl) (by kernel_rfl) rfl (by kernel_rfl) (by kernel_rfl) (by kernel_rfl) (fun _ _ _ h => h) (Or.inl ⟨by rfl, ?_⟩) (by assumption) ?_
        rotate_left
        · intro w hSw; (try dsimp only at hSw); (try go_split_ands); go_simp; (try (with_reducible rfl))
        (try simp only [Act.put, List.setIfInBounds_toArray, List.set_cons_zero, List.set_cons_succ])
        refine wpAnyR_done (by kernel_rfl) ?_ _
        gi_wp2
        refine ⟨M4, fun i hi => ⟨by rcases (hM4 i hi).1 with h | h; exact .inl h; exact .inr (.inr h), (hM4 i hi).2⟩, hk4.mono (fun _ _ h => .inl h), ?_⟩
        exact ⟨rfl, _, hpp, hJ4⟩
    | false =>
      (try simp only [Act.put, List.setIfInBounds_toArray, List.set_cons_zero, List.set_cons_succ])
      refine wpAnyR_take (i := 3) (oi := ⟨some 10, _, _, _, _, _⟩) (v := ?_) (by kernel_rfl) (by kernel_rfl) rfl (by kernel_rfl) (by kernel_rfl) (by kernel_rfl) (fun _ _ _ h => h) (Or.inl ⟨by rfl, ?_⟩) (by assumption) ?_
      rotate_left
      · intro w hSw; (try dsimp only at hSw); (try go_split_ands); go_simp; (try (with_reducible rfl))
      (try simp only [Act.put, List.setIfInBounds_toArray, List.set_cons_zero, List.set_cons_succ])
      refine wpAnyR_take (i := 4) (oi := ⟨some 11, _, _, _, _, _⟩) (v := undef) (by kernel_rfl) (by kernel_rfl) rfl (by kernel_rfl) (by kernel_rfl) (by kernel_rfl) (fun _ _ _ h => h) (Or.inr ⟨by rfl, rfl⟩) (by assumption) ?_
      (try simp only [Act.put, List.setIfInBounds_toArray, List.set_cons_zero, List.set_cons_succ])
      refine wpAnyR_take (i := 5) (oi := ⟨some 12, _, _, _, _, _⟩) (v := undef) (by kernel_rfl) (by kernel_rfl) rfl (by kernel_rfl) (by kernel_rfl) (by kernel_rfl) (fun _ _ _ h => h) (Or.inr ⟨by rfl, rfl⟩) (by assumption) ?_
      (try simp only [Act.put, List.setIfInBounds_toArray, List.set_cons_zero, List.set_cons_succ])
      refine wpAnyR_take (i := 6) (oi := ⟨some 13, _, _, _, _, _⟩) (v := undef) (by kernel_rfl) (by kernel_rfl) rfl (by kernel_rfl) (by kernel_rfl) (by kernel_rfl) (fun _ _ _ h => h) (Or.inr ⟨by rfl, rfl⟩) (by assumption) ?_
      (try simp only [Act.put, List.setIfInBounds_toArray, List.set_cons_zero, List.set_cons_succ])
      refine wpAnyR_take (i := 7) (oi := ⟨some 14, _, _, _, _, _⟩) (v := undef) (by kernel_rfl) (by kernel_rfl) rfl (by kernel_rfl) (by kernel_rfl) (by kernel_rfl) (fun _ _ _ h => h) (Or.inr ⟨by rfl, rfl⟩) (by assumption) ?_
      (try simp only [Act.put, List.setIfInBounds_toArray, List.set_cons_zero, List.set_cons_succ])
      refine wpAnyR_take (i := 8) (oi := ⟨some 15, _, _, _, _, _⟩) (v := undef) (by kernel_rfl) (by kernel_rfl) rfl (by kernel_rfl) (by kernel_rfl) (by kernel_rfl) (fun _ _ _ h => h) (Or.inr ⟨by rfl, rfl⟩) (by assumption) ?_
      (try simp only [Act.put, List.setIfInBounds_toArray, List.set_cons_zero, List.set_cons_succ])
      refine wpAnyR_take (i := 9) (oi := ⟨some 16, _, _, _, _, _⟩) (v := ?_) (by kernel_rfl) (by kernel_rfl) rfl (by kernel_rfl) (by kernel_rfl) (by kernel_rfl) (fun _ _ _ h => h) (Or.inl ⟨by rfl, ?_⟩) (by assumption) ?_
      rotate_left
      · intro w hSw; (try dsimp only at hSw); (try go_split_ands); go_simp; (try (with_reducible rfl))
      (try simp only [Act.put, List.setIfInBounds_toArray, List.set_cons_zero, List.set_cons_succ])
      refine wpAnyR_done (by kernel_rfl) ?_ _
      gi_wp2
      refine ⟨Mh, fun i hi => ⟨.inl hi, Nat.lt_of_lt_of_le (hM i hi).2 hb2A.size⟩, Kpt.of_new _ hb2A, ?_⟩
      show J3 J Mc _ W W1 ((pre ++ [x]).filter (allS ts)) Mh W2
      rw [hsn, hal, if_neg (by simp)]
      exact hI.kept hJ hz1 (Kpt.of_new _ hb2A)
  case done2 =>
    intro D2 W3 M3 hI3 hk3 hM3 hD3 hDw3 hDM3
    gi_wp2
    refine ⟨by simp, .inl ⟨_, _, rfl, run_takeDeferred hD3, ?_⟩⟩
    obtain ⟨M4, h41, h42, h43⟩ := hI3.ends hJ hMcW (fun _ h => h.elim) hbW1 (Nat.le_trans hz1 hDw3) (fun _ => hDM3) (o := .deferred none)
    exact ⟨_, results_none rfl _ _ _, ⟨_, rfl⟩, M4, h41, h42, .inl h43⟩
  case stop2 =>
    intro D2 c pre W3 M3 hpre hI3 hk3 hM3 hD3 hDw3 hDM3
    obtain ⟨rfl, y, hy, hI3⟩ := hI3
    gi_wp2
    refine ⟨by simp, .inl ⟨_, _, rfl, run_takeDeferred hD3, ?_⟩⟩
    obtain ⟨M4, h41, h42, h43⟩ := hI3.ends hJx hMcW (fun _ h => h.elim) hbW1 (Nat.le_trans hz1 hDw3) (fun _ => hDM3) (o := .deferred none)
    exact ⟨_, results_none rfl _ _ _, ⟨_, rfl⟩, M4, h41, h42, .inr ⟨y, hy, h43⟩⟩
end Go.Proofs.YtihdlalbgdighaaDoor.QV
/- How terms and whole numbers are opened into the print's kinds. -/
namespace Go.Proofs.YtihdlalbgdighaaDoor.QV
open Go.RowKit Go.Proofs.YtihdlalbgdighaaDoorW.PrintWords Go.Proofs.YtihdlalbgdighaaDoor.Op
set_option linter.unusedVariables false
theorem oTm : Opens Tryd.prog 109 k109 (fun _ => True) (fun x => x.f2.f3.size + 4) :=
  opens_mono (fun _ _ => trivial) (fun x => by simp only; omega)
    (opens_iso (b := fun x => ⟨x.1, x.2.1, x.2.2⟩) (fun _ => rfl) (opens_struct Tryd.underlying109 (by kernel_rfl)
      (opensF_cons rfl (by kernel_rfl) rfl (opens_int Tryd.underlying3) (opensF_cons rfl (by kernel_rfl) rfl (opens_int Tryd.underlying3) (opensF_last rfl (by kernel_rfl) oS)))))
theorem oTms : Opens Tryd.prog 22 (Kd.slice 109 k109) (fun xs => xs.length ≤ 9223372036854775807 ∧ xs.length * 56 ≤ 140737488351232) (fun xs => xs.length + 1) :=
  opens_mono (fun _ h => h.2) (fun xs => by have := len_le_sum (m := fun x : S109 => x.f2.f3.size + 4) (fun _ => by omega) xs; omega) (opens_slice Tryd.underlying22 (by kernel_rfl) (by kernel_rfl) oTm)
theorem oInts : Opens Tryd.prog 23 (Kd.slice 3 (Kd.int .i64)) (fun xs => xs.length ≤ 9223372036854775807 ∧ xs.length * 8 ≤ 140737488351232) (fun xs => xs.length + 1) :=
  opens_mono (fun _ h => h.2) (fun xs => by have := len_le_sum (m := fun _ : Int => 1) (fun _ => by omega) xs; omega) (opens_slice Tryd.underlying23 (by kernel_rfl) (by kernel_rfl) (opens_int Tryd.underlying3))
end Go.Proofs.YtihdlalbgdighaaDoor.QV
/- slices.Insert of one group among groups (two cells each). -/
namespace Go.Proofs.YtihdlalbgdighaaDoor.QV
open Go.RowKit Go.Proofs.YtihdlalbgdighaaDoorW.PrintWords Go.Proofs.YtihdlalbgdighaaDoor.SeqW Go.Shelf Go.Proofs.YtihdlalbgdighaaDoor.Op
set_option linter.unusedVariables false
set_option linter.unusedSimpArgs false
abbrev tG : Nat := 115
abbrev Raw := Value × Value

/-- The cells of elements of two cells. -/
def fl : List Raw → List Value
  | [] => []
  | x :: l => x.1 :: x.2 :: fl l
theorem fl_append : ∀ a b : List Raw, fl (a ++ b) = fl a ++ fl b
  | [], _ => rfl
  | x :: a, b => by simp [fl, fl_append a b]
theorem fl_length : ∀ a : List Raw, (fl a).length = a.length * 2
  | [] => rfl
  | x :: a => by simp [fl, fl_length a]; omega
theorem fl_take : ∀ (a : List Raw) (i : Nat), (fl a).take (i * 2) = fl (a.take i)
  | [], i => by simp [fl]
  | x :: a, 0 => by simp [fl]
  | x :: a, i + 1 => by rw [Nat.succ_mul]; simp [fl, fl_take a i]
theorem fl_drop : ∀ (a : List Raw) (i : Nat), (fl a).drop (i * 2) = fl (a.drop i)
  | [], i => by simp [fl]
  | x :: a, 0 => by simp [fl]
  | x :: a, i + 1 => by rw [Nat.succ_mul]; simp [fl, fl_drop a i]
theorem fl_at0 : ∀ (a : List Raw) (i : Nat), (fl a)[i * 2]? = (a[i]?).map (·.1)
  | [], i => by simp [fl]
  | x :: a, 0 => by simp [fl]
  | x :: a, i + 1 => by rw [Nat.succ_mul]; simp [fl, fl_at0 a i]
theorem fl_at1 : ∀ (a : List Raw) (i : Nat), (fl a)[i * 2 + 1]? = (a[i]?).map (·.2)
  | [], i => by simp [fl]
  | x :: a, 0 => by simp [fl]
  | x :: a, i + 1 => by rw [Nat.succ_mul]; simp [fl, fl_at1 a i]
theorem fl_mem {v : Value} : ∀ {a : List Raw}, v ∈ fl a → ∃ x ∈ a, v = x.1 ∨ v = x.2
  | [], h => by simp [fl] at h
  | x :: a, h => by
    simp only [fl, List.mem_cons] at h
    rcases h with rfl | rfl | h
    · exact ⟨x, by simp, .inl rfl⟩
    · exact ⟨x, by simp, .inr rfl⟩
    · obtain ⟨y, hy, h⟩ := fl_mem h
      exact ⟨y, by simp [hy], h⟩
def One (x : Raw) : Prop := x.1.oneCell' = true ∧ x.2.oneCell' = true
theorem fl_one {a : List Raw} (h : ∀ x ∈ a, One x) : ∀ v ∈ fl a, v.oneCell' = true := by
  intro v hv
  obtain ⟨x, hx, rfl | rfl⟩ := fl_mem hv
  · exact (h x hx).1
  · exact (h x hx).2
/-- A row of groups of one's own: what stands in its cells. -/
def GA (W : World) (base : Nat) (v : Value) (a : List Raw) : Prop := W.ownsRow base tG 2 v a.length (fl a) ∧ ∀ x ∈ a, One x
theorem reps_fl {M : Raw → List Value → Prop} : ∀ {a : List Raw}, (∀ x ∈ a, M x [x.1, x.2]) → Reps M 2 a (fl a) := by
  intro a h
  refine ⟨fl_length a, fun j p hj => ?_⟩
  have hp := h p (List.mem_of_getElem? hj)
  have h0 := fl_at0 a j
  have h1 := fl_at1 a j
  rw [hj] at h0 h1
  have : ((fl a).drop (j * 2)).take 2 = [p.1, p.2] := by
    rw [show (2 : Nat) = 1 + 1 from rfl, List.take_add_one, List.take_add_one]
    simp [List.getElem?_drop, h0, h1]
  rw [this]
  exact hp
theorem fl_of_reps {M : Raw → List Value → Prop} (hM : ∀ x c, M x c → c = [x.1, x.2]) {a : List Raw} {c : List Value} (h : Reps M 2 a c) : c = fl a := by
  refine List.ext_getElem? fun k => ?_
  have hl := h.1
  by_cases hk : k < a.length * 2
  · have hkl : k / 2 < a.length := by omega
    have hx := hM _ _ (h.2 (k / 2) _ (List.getElem?_eq_getElem hkl))
    have e0 : c[k / 2 * 2]? = some (a[k / 2]).1 := by
      have := congrArg (fun l : List Value => l[0]?) hx
      simpa [List.getElem?_take, List.getElem?_drop] using this
    have e1 : c[k / 2 * 2 + 1]? = some (a[k / 2]).2 := by
      have := congrArg (fun l : List Value => l[1]?) hx
      simpa [List.getElem?_take, List.getElem?_drop] using this
    have h0 := fl_at0 a (k / 2)
    have h1 := fl_at1 a (k / 2)
    rw [List.getElem?_eq_getElem hkl] at h0 h1
    rcases Nat.mod_two_eq_zero_or_one k with hm | hm
    · have : k = k / 2 * 2 := by omega
      rw [this, h0, e0]; rfl
    · have : k = k / 2 * 2 + 1 := by omega
      rw [this, h1, e1]; rfl
  · rw [List.getElem?_eq_none (by omega), List.getElem?_eq_none (by rw [fl_length]; omega)]
theorem GA.R {W : World} {base : Nat} {v : Value} {a : List Raw} (h : GA W base v a) : Kd.R kRaw tG W base (fun k => some k = v.ownBlock ∨ W.heap.size ≤ k) v a :=
  ⟨fun k hk => .inl hk.symm, fl a, h.1, reps_fl fun x hx => ⟨rfl, h.2 x hx⟩⟩
theorem GA.of_R {W : World} {base : Nat} {ok : Nat → Prop} {v : Value} {a : List Raw} (h : Kd.R kRaw tG W base ok v a) (h1 : ∀ x ∈ a, One x) : GA W base v a := by
  obtain ⟨_, inner, hown, hr⟩ := h
  obtain rfl := fl_of_reps (fun x c h => h.1) hr
  exact ⟨hown, h1⟩

theorem run_copy_two {P : Program} (w : World) (dT sT ty elem : TypeId) (g o dLen dCap : Nat) (a : Addr) (sLen sCap : Nat) (cur : Array Value) (t : TypeId) (cs : List Value) (m : Nat)
    (hu : P.underlying dT = some (.slice elem)) (hs : (P.info? elem).map (·.size) = some 2)
    (hg : w.heap[g]? = some (.cells cur t (0, 0))) (hm : Nat.min sLen dLen = m) (hn : cs.length = m * 2)
    (hsrc : ∀ j v, cs[j]? = some v → w.cell? (a.add j) = some v) (hfit : o + cs.length ≤ cur.size) (h1 : ∀ v ∈ cs, v.oneCell' = true) :
    (Builtin.copy_ #[dT, sT] ty #[.slice (some ⟨g, o, none⟩) dLen dCap, .slice (some a) sLen sCap]).run P w =
      .ok (goInt m) (w.setRow g (cur.toList.take o ++ cs ++ cur.toList.drop (o + cs.length)).toArray) := by
  have hl := run_loadCells_list (P := P) w a cs hsrc
  have hst := run_storeCells_at P g o t cs 0 cur w hg (by simpa using hfit) h1
  cases hq : P.info? elem with
  | none => simp [hq] at hs
  | some i =>
    have hi : i.size = 2 := by simpa [hq] using hs
    simp [Builtin.copy_, run_underlying hu, Builtin.lenOf, Builtin.firstCells, sizeOf, typeInfo, hq, hi, hm, ← hn, hl, hst]
theorem wpList_copy_two {P : Program} (w : World) {ops : Array Oper} {rest : List Oper} {o : Oper} {a : Act} {Q : Exit → Act → World → Prop} (hgd : o.guard = none) (d s : Operand) (t t' : TypeId)
    (ho : o.op = .call { callee := .builtin .copy, args := #[d, s], argTypes := #[t, t'] }) (v u : Value) (hd : a.eval d = v) (hs : a.eval s = u) {v' : Value} {w' : World}
    (hr : (Builtin.copy_ #[t, t'] o.type #[v, u]).run P w = .ok v' w') (h : wpList P ops Q rest (a.put o.dst v') w') : wpList P ops Q (o :: rest) a w :=
  wpList_plain hgd fun _ hK => by
    unfold Oper.wp execOp
    simp only [ho, resolve, invoke, builtin, Sem.run_bind, Sem.run_pure, Result.andThen_ok, List.map_toArray, List.map_cons, List.map_nil, hd, hs, hr]
    exact hK _ _ h
theorem step_copy_two {P : Program} {ops : Array Oper} {o : Oper} {a : Act} {w : World} {K : Act → World → Prop} {Q : Exit → Act → World → Prop} {E : Prop}
    (hg : o.guard = none) (d x : Operand) (dT sT : TypeId) (hop : o.op = Op.call { callee := Callee.builtin Builtin.copy, args := #[d, x], argTypes := #[dT, sT] })
    (v u : Value) (hd : a.eval d = v) (hx : a.eval x = u) {v' : Value} {w' : World} (hr : (Builtin.copy_ #[dT, sT] o.type #[v, u]).run P w = .ok v' w') (hK : K (a.put o.dst v') w') :
    if Region.wanted o (yielded ops a.tmps) = true then Oper.wp P o a w K Q else E := by
  have hw : Region.wanted o (yielded ops a.tmps) = true := by simp [Region.wanted, hg]
  rw [if_pos hw]
  unfold Oper.wp
  simp [execOp, hop, resolve, invoke, builtin, hd, hx, hr, Result.andThen]
  exact hK

theorem infoG2 : (Tryd.prog.info? tG).map (·.size) = some 2 := by kernel_rfl
theorem sizeG (w : World) : (sizeOf tG).run Tryd.prog w = .ok 2 w := by
  obtain ⟨i, hi, h2⟩ := Option.map_eq_some_iff.1 infoG2
  simp [sizeOf, typeInfo, hi, h2]
/-- At the end. -/
theorem insert_end (base : Nat) (v : Value) (l : List Raw) (r : Raw) (vb : Nat) (W : World) (hG : GA W base v l) (hvb : W.heap[vb]? = some (.cells #[r.1, r.2] tG (0, 0))) (hr : One r) (hne : some vb ≠ v.ownBlock)
    (hb : base ≤ W.heap.size) (hbig : l.length ≤ 1048576) :
    Calls Tryd.prog 60 #[v, .int .i64 l.length, .slice (some ⟨vb, 0, none⟩) 1 1] W fun e W' => ∃ v', e = .returned v' ∧ GA W' base v' (l ++ [r]) ∧ W.grownBy W' v.ownBlock ∧ (v'.ownBlock = v.ownBlock ∨ ∃ b, v'.ownBlock = some b ∧ W.heap.size ≤ b) := by
  obtain ⟨A, c, rfl⟩ := own_slice hG.1
  have hlc := own_le hG.1
  have hR := hG.R
  have hone : ∀ x ∈ l ++ [r], One x := fun x hx => by
    rcases List.mem_append.1 hx with h | h
    · exact hG.2 x h
    · rw [List.mem_singleton.1 h]; exact hr
  have hC : ReadsRow (fun (x : Raw) cs => cs = [x.1, x.2] ∧ One x) kRaw.sz W (some ⟨vb, 0, none⟩) 1 [r] := ⟨rfl, by omega, fun _ => ⟨_, rfl, fun j p hj => by
    have hj0 : j = 0 := by have := (List.getElem?_eq_some_iff.1 hj).1; simpa using this
    subst hj0
    have hp : r = p := by simpa using hj
    subst hp
    exact ⟨[r.1, r.2], rfl, ⟨rfl, hr⟩, fun k u hu => by
      rw [Nat.zero_mul, Nat.zero_add, add_plain, blk_cell hvb]
      simpa using hu⟩⟩⟩
  go_enter Tryd.func60, Tryd.ntmps60
  cases A with
  | none =>
    go_wp2_with (at_builtin; refine Kd.R_append_rows kRaw (w0 := W) base rfl (.tmp 23) (.tmp 24) 113 tG _ 48 rfl Tryd.underlying113 infoG rfl (by decide) (by decide) (.slice none l.length c) l [r] (some ⟨vb, 0, none⟩) 1 1 _ (fun _ => False) rfl rfl hR hC (fun x cs h => ⟨h.1, h.2⟩) (fun _ h => h.elim) (fun k hk => .inr hk) ((Below.refl W.heap.size W).mono hb) hb (by omega) ?_; intro v1 w4 hv1 hB7 hg7 hat7)
    go_ret
    exact ⟨v1, rfl, GA.of_R hv1 hone, hg7, hat7⟩
  | some ad =>
    go_wp2_with (at_builtin; refine Kd.R_append_rows kRaw (w0 := W) base rfl (.tmp 23) (.tmp 24) 113 tG _ 48 rfl Tryd.underlying113 infoG rfl (by decide) (by decide) (.slice (some ad) l.length c) l [r] (some ⟨vb, 0, none⟩) 1 1 _ (fun _ => False) rfl rfl hR hC (fun x cs h => ⟨h.1, h.2⟩) (fun _ h => h.elim) (fun k hk => .inr hk) ((Below.refl W.heap.size W).mono hb) hb (by omega) ?_; intro v1 w4 hv1 hB7 hg7 hat7)
    all_goals (go_ret; exact ⟨v1, rfl, GA.of_R hv1 hone, hg7, hat7⟩)
theorem grownBy_rows {W : World} {g : Nat} {c : Array Value} : ∀ {V : World}, W.grownBy V (some g) → W.grownBy (V.setRow g c) (some g) := by
  intro V h
  refine ⟨h.os, h.tape, h.output, by simpa [World.setRow] using h.size, fun i hi hne => ?_⟩
  have hig : i ≠ g := fun e => hne (by rw [e])
  rw [← h.block i hi hne]
  simp [World.setRow, Array.getElem?_modify, Ne.symm hig]
theorem below_rows {B : Nat} {w V : World} {g : Nat} {c : Array Value} (h : Below B w V) (hg : B ≤ g) : Below B w (V.setRow g c) := by
  refine ⟨h.os, h.tape, h.output, by simpa [World.setRow] using h.size, fun i hi => ?_⟩
  have hig : i ≠ g := by omega
  rw [← h.block i hi]
  simp [World.setRow, Array.getElem?_modify, Ne.symm hig]
set_option maxHeartbeats 4000000 in
set_option maxRecDepth 100000 in
/-- Into the midst, where there is room. -/
theorem insert_shift (base : Nat) (g cap : Nat) (l : List Raw) (i : Nat) (r : Raw) (vb : Nat) (W : World) (hG : GA W base (.slice (some ⟨g, 0, none⟩) l.length cap) l) (hvb : W.heap[vb]? = some (.cells #[r.1, r.2] tG (0, 0))) (hr : One r) (hne : vb ≠ g)
    (hb : base ≤ W.heap.size) (hbig : l.length ≤ 1048576) (hi : i < l.length) (hroom : l.length + 1 ≤ cap) :
    Calls Tryd.prog 60 #[.slice (some ⟨g, 0, none⟩) l.length cap, .int .i64 i, .slice (some ⟨vb, 0, none⟩) 1 1] W fun e W' => ∃ v', e = .returned v' ∧ GA W' base v' (l.take i ++ r :: l.drop i) ∧ W.grownBy W' (some g) ∧ v'.ownBlock = some g := by
  obtain ⟨⟨hl0, hown⟩, hone⟩ := hG
  obtain ⟨g', cap', cur, hv, hgb, hg, hnc, hcm, hcs, hct⟩ : ∃ g' cap' cur, Value.slice (some ⟨g, 0, none⟩) l.length cap = .slice (some ⟨g', 0, none⟩) l.length cap' ∧ base ≤ g' ∧ W.heap[g']? = some (.cells cur tG (0, 0)) ∧ l.length ≤ cap' ∧ cap' ≤ maxLen ∧ cur.size = cap' * 2 ∧ cur.toList.take (l.length * 2) = fl l := by
    rcases hown with h | h
    · have := h.2; omega
    · exact h
  obtain ⟨rfl, rfl⟩ : g = g' ∧ cap = cap' := by simpa using hv
  clear hv hown
  have hcl : cur.toList.length = cap * 2 := by simpa using hcs
  have hdl : (fl (l.drop i)).length = (l.length - i) * 2 := by rw [fl_length, List.length_drop]
  have hcell : ∀ j v, (fl l)[j]? = some v → W.cell? ⟨g, j, none⟩ = some v := fun j v hj => by
    rw [blk_cell hg, ← Array.getElem?_toList]
    rw [← hct] at hj
    rw [List.getElem?_take] at hj
    split at hj
    · exact hj
    · cases hj
  obtain ⟨cur1, hcur1⟩ : ∃ cur1, (cur.toList.take ((i + 1) * 2) ++ fl (l.drop i) ++ cur.toList.drop ((i + 1) * 2 + (fl (l.drop i)).length)).toArray = cur1 := ⟨_, rfl⟩
  have hc1l : cur1.toList.length = cap * 2 := by
    rw [← hcur1]
    simp only [List.toList_toArray, List.length_append, List.length_take, List.length_drop, hdl, hcl]
    omega
  have hc1s : cur1.size = cap * 2 := by simpa using hc1l
  have e1 : cur1.toList.take (i * 2) = fl (l.take i) := by
    rw [← hcur1, List.toList_toArray, List.append_assoc, List.take_append_of_le_length (by rw [List.length_take, hcl]; omega), List.take_take, Nat.min_eq_left (by omega), ← fl_take, ← hct, List.take_take, Nat.min_eq_left (by omega)]
  have e2 : cur1.toList.drop (i * 2 + 2) = fl (l.drop i) ++ cur.toList.drop ((i + 1) * 2 + (fl (l.drop i)).length) := by
    rw [← hcur1, List.toList_toArray, List.append_assoc, List.drop_append_of_le_length (by rw [List.length_take, hcl]; omega), List.drop_of_length_le (by rw [List.length_take, hcl]; omega), List.nil_append]
  obtain ⟨W1, hW1⟩ : ∃ W1, W.drew.setRow g cur1 = W1 := ⟨_, rfl⟩
  have hg1 : W1.heap[g]? = some (.cells cur1 tG (0, 0)) := by rw [← hW1]; exact setRow_heap W.drew g cur cur1 tG (0, 0) hg
  have hvb1 : W1.heap[vb]? = some (.cells #[r.1, r.2] tG (0, 0)) := by
    rw [← hW1]
    simp [World.setRow, Array.getElem?_modify, Ne.symm hne]
    exact hvb
  obtain ⟨cur2, hcur2⟩ : ∃ cur2, (cur1.toList.take (i * 2) ++ [r.1, r.2] ++ cur1.toList.drop (i * 2 + [r.1, r.2].length)).toArray = cur2 := ⟨_, rfl⟩
  have hfin : cur2.toList.take ((l.length + 1) * 2) = fl (l.take i ++ r :: l.drop i) := by
    have e3 : cur2.toList = fl (l.take i ++ r :: l.drop i) ++ cur.toList.drop ((i + 1) * 2 + (fl (l.drop i)).length) := by
      rw [← hcur2, List.toList_toArray, e1, show i * 2 + [r.1, r.2].length = i * 2 + 2 from rfl, e2, fl_append]
      simp [fl]
    have e4 : (fl (l.take i ++ r :: l.drop i)).length = (l.length + 1) * 2 := by
      rw [fl_length]
      simp only [List.length_append, List.length_take, List.length_cons, List.length_drop]
      omega
    rw [e3, ← e4, List.take_left]
  have hc2l : cur2.size = cap * 2 := by
    rw [← hcur2]
    simp only [List.size_toArray, List.length_append, List.length_take, List.length_drop, hc1l, List.length_cons, List.length_nil]
    omega
  have hcp1 : ∀ ty dc sc, (Builtin.copy_ #[113, 113] ty #[.slice (some ⟨g, (i + 1) * 2, none⟩) (l.length + 1 - (i + 1)) dc, .slice (some ⟨g, i * 2, none⟩) (l.length + 1 - i) sc]).run Tryd.prog W.drew = .ok (goInt ((l.length - i : Nat) : Int)) W1 := fun ty dc sc => by
    rw [← hW1, ← hcur1]
    exact run_copy_two W.drew _ _ ty tG g ((i + 1) * 2) (l.length + 1 - (i + 1)) dc ⟨g, i * 2, none⟩ (l.length + 1 - i) sc cur tG (fl (l.drop i)) (l.length - i) Tryd.underlying113 infoG2 hg (by simp only [Nat.min_def]; split <;> omega) hdl
      (fun j v hj => by rw [Addr.add_lit]; refine hcell (i * 2 + j) v ?_; rw [← List.getElem?_drop, fl_drop]; exact hj) (by rw [hdl, hcs]; omega) (fl_one fun x hx => hone x (List.mem_of_mem_drop hx))
  have hcp2 : ∀ ty dc, (Builtin.copy_ #[113, 113] ty #[.slice (some ⟨g, i * 2, none⟩) (l.length + 1 - i) dc, .slice (some ⟨vb, 0, none⟩) 1 1]).run Tryd.prog W1 = .ok (goInt 1) (W1.setRow g cur2) := fun ty dc => by
    rw [← hcur2]
    exact run_copy_two W1 _ _ ty tG g (i * 2) (l.length + 1 - i) dc ⟨vb, 0, none⟩ 1 1 cur1 tG [r.1, r.2] 1 Tryd.underlying113 infoG2 hg1 (by simp only [Nat.min_def]; split <;> omega) rfl
      (fun j v hj => by rw [add_plain, blk_cell hvb1]; simpa using hj) (by simp only [hc1s, List.length_cons, List.length_nil]; omega) (by intro v hv; simp at hv; rcases hv with rfl | rfl; exact hr.1; exact hr.2)
  have hsa : W.shape? vb = some (tG, 2) := by simp [World.shape?, hvb]
  have hsb : W.shape? g = some (tG, cap * 2) := by simp [World.shape?, hg, hcs]
  have hov : ∀ o lb cb, (callFunc 83 #[.slice (some ⟨vb, 0, none⟩) 1 1, .slice (some ⟨g, o, none⟩) lb cb]).run Tryd.prog W = .ok (.value (.bool false)) W := fun o lb cb => by
    rw [run_callFunc_extern Tryd.func83 (by kernel_rfl) (by kernel_rfl) (by kernel_rfl) (e := Extern.SlicesOverlaps.overlaps #[113, 113] #[4]) (by kernel_rfl),
      Lib.run_overlaps_apart W 113 4 tG Tryd.underlying113 2 sizeG ⟨vb, 0, none⟩ ⟨g, o, none⟩ 1 1 lb cb hne tG tG 2 (cap * 2) hsa hsb (by omega) (blk_frozen hvb 0) (blk_frozen hvb 2)]
    rfl
  have hz2 : ¬ ((i : Int) = (l.length : Int)) := by omega
  have hw1 : IntKind.i64.wrap ((i : Int) + 1) = (i : Int) + 1 := by rw [IntKind.wrap_i64]; omega
  have hb1 : (0 : Int) ≤ (i : Int) + 1 := by omega
  have hin : i ≤ l.length := by omega
  have htn : ((i : Int) + 1).toNat = i + 1 := by omega
  have hb2 : ¬ (cap = i + 1) := by omega
  have hb3 : (i : Int) ≤ (l.length : Int) + 1 := by omega
  have hb4 : ¬ (cap = i) := by omega
  go_enter Tryd.func60, Tryd.ntmps60
  have mixed : Tryd.prog.follows Departure.mixedOrders = true := by kernel_rfl
  go_wp2_with (simp only [hov])
  go_region_law_o (refine step_copy_two rfl _ _ 113 113 rfl (.slice (some ⟨g, (i + 1) * 2, none⟩) (l.length + 1 - (i + 1)) (cap - (i + 1))) (.slice (some ⟨g, i * 2, none⟩) (l.length + 1 - i) (cap - i)) (by simp [Act.eval, Act.put]) (by simp [Act.eval, Act.put]) (hcp1 _ _ _) ?_)
  go_wp2_with (at_builtin; refine wpList_copy_two _ rfl _ _ 113 113 rfl _ _ rfl rfl (hcp2 _ _) ?_)
  go_ret
  have hlen : (l.take i ++ r :: l.drop i).length = l.length + 1 := by
    simp only [List.length_append, List.length_take, List.length_cons, List.length_drop]
    omega
  refine ⟨_, rfl, ⟨⟨fl_length _, .inr ⟨g, cap, cur2, by rw [hlen]; rfl, hgb, setRow_heap W1 g cur1 cur2 tG (0, 0) hg1, by omega, hcm, hc2l, by rw [hlen, hfin]⟩⟩, fun x hx => ?_⟩, ?_, rfl⟩
  · rcases List.mem_append.1 hx with h | h
    · exact hone x (List.mem_of_mem_take h)
    · rcases List.mem_cons.1 h with rfl | h
      · exact hr
      · exact hone x (List.mem_of_mem_drop h)
  · rw [← hW1]
    exact grownBy_rows (grownBy_rows (grown_of_below (below_drew (Below.refl _ _)) _))
set_option maxHeartbeats 4000000 in
set_option maxRecDepth 100000 in
/-- Into the midst, where there is no room. -/
theorem insert_grow (base : Nat) (g cap : Nat) (l : List Raw) (i : Nat) (r : Raw) (vb : Nat) (W : World) (hG : GA W base (.slice (some ⟨g, 0, none⟩) l.length cap) l) (hvb : W.heap[vb]? = some (.cells #[r.1, r.2] tG (0, 0))) (hr : One r) (hne : vb ≠ g)
    (hb : base ≤ W.heap.size) (hbig : l.length ≤ 1048576) (hi : i < l.length) (hroom : cap < l.length + 1) :
    Calls Tryd.prog 60 #[.slice (some ⟨g, 0, none⟩) l.length cap, .int .i64 i, .slice (some ⟨vb, 0, none⟩) 1 1] W fun e W' => ∃ v', e = .returned v' ∧ GA W' base v' (l.take i ++ r :: l.drop i) ∧ Below W.heap.size W W' ∧ v'.ownBlock = some W.heap.size := by
  obtain ⟨⟨hl0, hown⟩, hone⟩ := hG
  obtain ⟨g', cap', cur, hv, hgb, hg, hnc, hcm, hcs, hct⟩ : ∃ g' cap' cur, Value.slice (some ⟨g, 0, none⟩) l.length cap = .slice (some ⟨g', 0, none⟩) l.length cap' ∧ base ≤ g' ∧ W.heap[g']? = some (.cells cur tG (0, 0)) ∧ l.length ≤ cap' ∧ cap' ≤ maxLen ∧ cur.size = cap' * 2 ∧ cur.toList.take (l.length * 2) = fl l := by
    rcases hown with h | h
    · have := h.2; omega
    · exact h
  obtain ⟨rfl, rfl⟩ : g = g' ∧ cap = cap' := by simpa using hv
  clear hv hown
  have hcl : cur.toList.length = cap * 2 := by simpa using hcs
  have hdl : (fl (l.drop i)).length = (l.length - i) * 2 := by rw [fl_length, List.length_drop]
  have hcell : ∀ V : World, V.heap[g]? = some (.cells cur tG (0, 0)) → ∀ j v, (fl l)[j]? = some v → V.cell? ⟨g, j, none⟩ = some v := fun V hV j v hj => by
    rw [blk_cell hV, ← Array.getElem?_toList]
    rw [← hct] at hj
    rw [List.getElem?_take] at hj
    split at hj
    · exact hj
    · cases hj
  obtain ⟨i0, hi0, hz0, hzs, hzb⟩ : ∃ i0, Tryd.prog.info? tG = some i0 ∧ i0.zero = some (.agg #[.slice none 0 0, .slice none 0 0]) ∧ i0.size = 2 ∧ i0.bytes = 48 := by
    obtain ⟨i0, h, e⟩ := Option.map_eq_some_iff.1 infoG
    simp only [Prod.mk.injEq] at e
    exact ⟨i0, h, e.1, e.2.1, e.2.2⟩
  have hold : (Builtin.firstCells i0.size i (.slice (some ⟨g, 0, none⟩) i cap)).run Tryd.prog W.drew = .ok (fl (l.take i)).toArray W.drew := by
    rw [hzs]
    exact run_firstCells_some W.drew 2 i ⟨g, 0, none⟩ i cap (fl (l.take i)) (by rw [fl_length, List.length_take]; omega) (fun j v hj => by
      rw [add_plain]
      refine hcell W.drew hg j v ?_
      rw [← fl_take, List.getElem?_take] at hj
      split at hj
      · exact hj
      · cases hj)
  have hkk : (l.length : Int) + 1 - (i : Int) = ((l.length + 1 - i : Nat) : Int) := by omega
  have hik : i + (l.length + 1 - i) = l.length + 1 := by omega
  have hrz : ∀ ty, (Builtin.append_ #[113, 3] ty #[.slice (some ⟨g, 0, none⟩) i cap, .int .i64 ((l.length : Int) + 1 - (i : Int))]).run Tryd.prog W =
      .ok (.slice (some ⟨W.heap.size, 0, none⟩) (l.length + 1) (grownCap W (l.length + 1) cap tG)) (W.drew.alloc (.cells ((fl (l.take i)).toArray ++ Builtin.zeroCells (Value.agg #[.slice none 0 0, .slice none 0 0]).cells (l.length + 1 - i) ++ Builtin.zeroCells (Value.agg #[.slice none 0 0, .slice none 0 0]).cells (grownCap W (l.length + 1) cap tG - (l.length + 1))) tG)) := fun ty => by
    have h := Lib.run_append_grow_zeros W 113 3 ty tG i0 _ .i64 .i64 Tryd.underlying113 Tryd.underlying3 hi0 hz0 (some ⟨g, 0, none⟩) i cap (fl (l.take i)) hold (l.length + 1 - i) (by omega) (by omega) (by omega) (by omega) (by rw [hzb]; omega) (by rw [hzb, hik]; exact growslice_fits hroom (by omega))
    rw [hik] at h
    rw [hkk]
    exact h
  have hGn : l.length + 1 ≤ grownCap W (l.length + 1) cap tG := grownCap_ge W _ _ _
  have hG63 : grownCap W (l.length + 1) cap tG ≤ maxLen := grownCap_le_maxLen W _ _ _ (by unfold maxLen; omega)
  have hGm : grownCap W (l.length + 1) cap tG ≤ 9223372036854775807 := by unfold maxLen at hG63; omega
  generalize grownCap W (l.length + 1) cap tG = G at *
  obtain ⟨ROW, hROW⟩ : ∃ ROW : Array Value, (fl (l.take i)).toArray ++ Builtin.zeroCells (Value.agg #[.slice none 0 0, .slice none 0 0]).cells (l.length + 1 - i) ++ Builtin.zeroCells (Value.agg #[.slice none 0 0, .slice none 0 0]).cells (G - (l.length + 1)) = ROW := ⟨_, rfl⟩
  rw [hROW] at hrz
  have htl : (fl (l.take i)).length = i * 2 := by rw [fl_length, List.length_take]; omega
  have hRs : ROW.size = G * 2 := by
    rw [← hROW]
    have hc2 : (Value.agg #[.slice none 0 0, .slice none 0 0]).cells.size = 2 := rfl
    simp only [Array.size_append, List.size_toArray, htl, size_zeroCells, hc2]
    omega
  have hRl : ROW.toList.length = G * 2 := by simpa using hRs
  have hRt : ROW.toList.take (i * 2) = fl (l.take i) := by
    rw [← hROW]
    simp only [Array.toList_append, List.toList_toArray, List.append_assoc]
    rw [← htl, List.take_left]
  obtain ⟨nb, hnb⟩ : ∃ nb, W.heap.size = nb := ⟨_, rfl⟩
  have hgn : g ≠ nb := by have := blk_lt hg; omega
  have hvn : vb ≠ nb := by have := blk_lt hvb; omega
  obtain ⟨cur1, hcur1⟩ : ∃ cur1, (ROW.toList.take (i * 2) ++ [r.1, r.2] ++ ROW.toList.drop (i * 2 + [r.1, r.2].length)).toArray = cur1 := ⟨_, rfl⟩
  have hc1l : cur1.toList.length = G * 2 := by
    rw [← hcur1]
    simp only [List.toList_toArray, List.length_append, List.length_take, List.length_drop, hRl, List.length_cons, List.length_nil]
    omega
  have hc1s : cur1.size = G * 2 := by simpa using hc1l
  have e1 : cur1.toList.take ((i + 1) * 2) = fl (l.take i) ++ [r.1, r.2] := by
    have : (fl (l.take i) ++ [r.1, r.2]).length = (i + 1) * 2 := by simp only [List.length_append, htl, List.length_cons, List.length_nil]; omega
    rw [← hcur1, List.toList_toArray, hRt, ← this, List.take_left]
  obtain ⟨cur2, hcur2⟩ : ∃ cur2, (cur1.toList.take ((i + 1) * 2) ++ fl (l.drop i) ++ cur1.toList.drop ((i + 1) * 2 + (fl (l.drop i)).length)).toArray = cur2 := ⟨_, rfl⟩
  have hc2l : cur2.size = G * 2 := by
    rw [← hcur2]
    simp only [List.size_toArray, List.length_append, List.length_take, List.length_drop, hc1l, hdl]
    omega
  have hfin : cur2.toList.take ((l.length + 1) * 2) = fl (l.take i ++ r :: l.drop i) := by
    have e3 : cur2.toList = fl (l.take i ++ r :: l.drop i) ++ cur1.toList.drop ((i + 1) * 2 + (fl (l.drop i)).length) := by
      rw [← hcur2, List.toList_toArray, e1, fl_append]
      simp [fl]
    have e4 : (fl (l.take i ++ r :: l.drop i)).length = (l.length + 1) * 2 := by
      rw [fl_length]
      simp only [List.length_append, List.length_take, List.length_cons, List.length_drop]
      omega
    rw [e3, ← e4, List.take_left]
  have hcpA : ∀ V : World, V.heap[nb]? = some (.cells ROW tG (0, 0)) → V.heap[vb]? = some (.cells #[r.1, r.2] tG (0, 0)) → ∀ ty dc, (Builtin.copy_ #[113, 113] ty #[.slice (some ⟨nb, i * 2, none⟩) (l.length + 1 - i) dc, .slice (some ⟨vb, 0, none⟩) 1 1]).run Tryd.prog V = .ok (goInt 1) (V.setRow nb cur1) := fun V hV1 hV2 ty dc => by
    rw [← hcur1]
    exact run_copy_two V _ _ ty tG nb (i * 2) (l.length + 1 - i) dc ⟨vb, 0, none⟩ 1 1 ROW tG [r.1, r.2] 1 Tryd.underlying113 infoG2 hV1 (by simp only [Nat.min_def]; split <;> omega) rfl
      (fun j v hj => by rw [add_plain, blk_cell hV2]; simpa using hj) (by simp only [hRs, List.length_cons, List.length_nil]; omega) (by intro v hv; simp at hv; rcases hv with rfl | rfl; exact hr.1; exact hr.2)
  have hcpB : ∀ V : World, V.heap[nb]? = some (.cells cur1 tG (0, 0)) → V.heap[g]? = some (.cells cur tG (0, 0)) → ∀ ty dc sc, (Builtin.copy_ #[113, 113] ty #[.slice (some ⟨nb, (i + 1) * 2, none⟩) (l.length + 1 - (i + 1)) dc, .slice (some ⟨g, i * 2, none⟩) (l.length - i) sc]).run Tryd.prog V = .ok (goInt ((l.length - i : Nat) : Int)) (V.setRow nb cur2) := fun V hV1 hV2 ty dc sc => by
    rw [← hcur2]
    exact run_copy_two V _ _ ty tG nb ((i + 1) * 2) (l.length + 1 - (i + 1)) dc ⟨g, i * 2, none⟩ (l.length - i) sc cur1 tG (fl (l.drop i)) (l.length - i) Tryd.underlying113 infoG2 hV1 (by simp only [Nat.min_def]; split <;> omega) hdl
      (fun j v hj => by rw [Addr.add_lit]; refine hcell V hV2 (i * 2 + j) v ?_; rw [← List.getElem?_drop, fl_drop]; exact hj) (by rw [hdl, hc1s]; omega) (fl_one fun x hx => hone x (List.mem_of_mem_drop hx))
  obtain ⟨W1, hW1⟩ : ∃ W1, W.drew.alloc (.cells ROW tG) = W1 := ⟨_, rfl⟩
  have hnW1 : W1.heap[nb]? = some (.cells ROW tG (0, 0)) := by rw [← hW1, ← hnb]; exact blk_new W.drew _
  have hvW1 : W1.heap[vb]? = some (.cells #[r.1, r.2] tG (0, 0)) := by rw [← hW1]; exact blk_alloc (blk_drew hvb) _
  have hgW1 : W1.heap[g]? = some (.cells cur tG (0, 0)) := by rw [← hW1]; exact blk_alloc (blk_drew hg) _
  have hbW1 : Below W.heap.size W W1 := by rw [← hW1]; exact below_alloc (below_drew (Below.refl _ _)) _
  rw [hW1, hnb] at hrz
  obtain ⟨W2, hW2⟩ : ∃ W2, W1.setRow nb cur1 = W2 := ⟨_, rfl⟩
  have hnW2 : W2.heap[nb]? = some (.cells cur1 tG (0, 0)) := by rw [← hW2]; exact setRow_heap W1 nb ROW cur1 tG (0, 0) hnW1
  have hgW2 : W2.heap[g]? = some (.cells cur tG (0, 0)) := by
    rw [← hW2]
    simp [World.setRow, Array.getElem?_modify, Ne.symm hgn]
    exact hgW1
  have hcpA1 := hcpA W1 hnW1 hvW1
  rw [hW2] at hcpA1
  have hcpB1 := hcpB W2.drew hnW2 hgW2
  have hz2 : ¬ ((i : Int) = (l.length : Int)) := by omega
  have hz3 : (cap : Int) < (l.length : Int) + 1 := by omega
  have hw1 : IntKind.i64.wrap ((i : Int) + 1) = (i : Int) + 1 := by rw [IntKind.wrap_i64]; omega
  have hb1 : (0 : Int) ≤ (i : Int) + 1 := by omega
  have hin : i ≤ l.length := by omega
  have htn : ((i : Int) + 1).toNat = i + 1 := by omega
  have hb2 : ¬ (G = i + 1) := by omega
  have hb3 : (i : Int) ≤ (l.length : Int) := by omega
  have hb4 : ¬ (G = i) := by omega
  have hb5 : ¬ (cap = i) := by omega
  have mixed : Tryd.prog.follows Departure.mixedOrders = true := by kernel_rfl
  clear hkk hik hold hROW hRl hRt hcpA hcpB hcell hcur1 hcur2 hW1
  go_enter Tryd.func60, Tryd.ntmps60
  go_wp2_with (first
    | (at_builtin; refine Lib.wpList_append_run _ rfl _ _ _ _ rfl _ _ rfl rfl _ _ (hrz _) ?_)
    | (at_builtin; refine wpList_copy_two _ rfl _ _ 113 113 rfl _ _ rfl rfl (hcpA1 _ _) ?_))
  go_region_law_o (refine step_copy_two rfl _ _ 113 113 rfl (.slice (some ⟨nb, (i + 1) * 2, none⟩) (l.length + 1 - (i + 1)) (G - (i + 1))) (.slice (some ⟨g, i * 2, none⟩) (l.length - i) (cap - i)) (by simp [Act.eval, Act.put]) (by simp [Act.eval, Act.put]) (hcpB1 _ _ _) ?_)
  go_wp2
  go_ret
  have hlen : (l.take i ++ r :: l.drop i).length = l.length + 1 := by
    simp only [List.length_append, List.length_take, List.length_cons, List.length_drop]
    omega
  have hlt : W.heap.size ≤ nb := by omega
  refine ⟨_, rfl, ⟨⟨fl_length _, .inr ⟨nb, G, cur2, by rw [hlen]; rfl, by omega, setRow_heap W2.drew nb cur1 cur2 tG (0, 0) hnW2, by omega, hG63, hc2l, by rw [hlen, hfin]⟩⟩, fun x hx => ?_⟩, ?_, by rw [hnb]; rfl⟩
  · rcases List.mem_append.1 hx with h | h
    · exact hone x (List.mem_of_mem_take h)
    · rcases List.mem_cons.1 h with rfl | h
      · exact hr
      · exact hone x (List.mem_of_mem_drop h)
  · refine below_rows ?_ hlt
    refine below_drew ?_
    rw [← hW2]
    exact below_rows hbW1 hlt
/-- slices.Insert of one group: whatever the room. -/
theorem insert_any (base : Nat) (v : Value) (l : List Raw) (i : Nat) (r : Raw) (vb : Nat) (W : World) (hG : GA W base v l) (hvb : W.heap[vb]? = some (.cells #[r.1, r.2] tG (0, 0))) (hr : One r) (hne : some vb ≠ v.ownBlock)
    (hb : base ≤ W.heap.size) (hbig : l.length ≤ 1048576) (hi : i ≤ l.length) :
    Calls Tryd.prog 60 #[v, .int .i64 i, .slice (some ⟨vb, 0, none⟩) 1 1] W fun e W' => ∃ v', e = .returned v' ∧ GA W' base v' (l.take i ++ r :: l.drop i) ∧ W.grownBy W' v.ownBlock ∧ (v'.ownBlock = v.ownBlock ∨ ∃ b, v'.ownBlock = some b ∧ W.heap.size ≤ b) := by
  rcases Nat.lt_or_ge i l.length with hlt | hge
  · have hown := hG.1.2
    rcases hown with h | ⟨g, cap, cur, rfl, hgb, hg, hnc, hcm, hcs, hct⟩
    · omega
    · have hng : vb ≠ g := fun e => hne (by rw [e]; rfl)
      rcases Nat.lt_or_ge cap (l.length + 1) with hc | hc
      · refine (insert_grow base g cap l i r vb W hG hvb hr hng hb hbig hlt hc).mono ?_
        rintro e W' ⟨v', h1, h2, h3, h4⟩
        exact ⟨v', h1, h2, grown_of_below h3 _, .inr ⟨_, h4, Nat.le_refl _⟩⟩
      · refine (insert_shift base g cap l i r vb W hG hvb hr hng hb hbig hlt hc).mono ?_
        rintro e W' ⟨v', h1, h2, h3, h4⟩
        exact ⟨v', h1, h2, h3, .inl h4⟩
  · obtain rfl : i = l.length := by omega
    rw [List.take_length, List.drop_length]
    exact insert_end base v l r vb W hG hvb hr hne hb hbig
end Go.Proofs.YtihdlalbgdighaaDoor.QV
/- Stable sorting, plain: elements are told by where they stood first; who is ahead of whom. -/
namespace Go.Proofs.YtihdlalbgdighaaDoor.Stab

/-- A comparison that may sort. -/
structure CmpOk (cf : Nat → Nat → Int) : Prop where
  swap : ∀ x y, cf x y < 0 ↔ 0 < cf y x
  trans : ∀ x y z, cf x y ≤ 0 → cf y z ≤ 0 → cf x z ≤ 0
def Lt (cf : Nat → Nat → Int) (x y : Nat) : Prop := cf x y < 0 ∨ (cf x y = 0 ∧ x < y)
section
variable {cf : Nat → Nat → Int}
theorem Lt.trans (h : CmpOk cf) {x y z : Nat} (a : Lt cf x y) (b : Lt cf y z) : Lt cf x z := by
  have h1 := h.trans x y z
  have h2 := h.trans y z x
  have h3 := h.trans z x y
  have e1 := h.swap x z; have e2 := h.swap z x; have e3 := h.swap x y; have e4 := h.swap y x; have e5 := h.swap y z; have e6 := h.swap z y
  unfold Lt at *
  omega
/-- Of two of which the second one stood behind the first, the program's question tells it. -/
theorem Lt.of_neg {x y : Nat} (hn : cf y x < 0) : Lt cf y x := .inl hn
theorem Lt.of_not (h : CmpOk cf) {x y : Nat} (hxy : x < y) (hn : ¬ cf y x < 0) : Lt cf x y := by
  have e3 := h.swap x y; have e4 := h.swap y x
  unfold Lt
  omega
theorem pw_append {R : Nat → Nat → Prop} {u v : List Nat} (hu : u.Pairwise R) (hv : v.Pairwise R) (h : ∀ x ∈ u, ∀ y ∈ v, R x y) : (u ++ v).Pairwise R := List.pairwise_append.2 ⟨hu, hv, h⟩
/-- All of u are ahead of x, if the last one is. -/
theorem all_ahead (h : CmpOk cf) {u : List Nat} {y x : Nat} (hu : (u ++ [y]).Pairwise (Lt cf)) (hy : Lt cf y x) : ∀ z ∈ u ++ [y], Lt cf z x := by
  intro z hz
  rcases List.mem_append.1 hz with hz | hz
  · exact Lt.trans h ((List.pairwise_append.1 hu).2.2 z hz y (by simp)) hy
  · rw [List.mem_singleton.1 hz]; exact hy
theorem all_behind (h : CmpOk cf) {v : List Nat} {y x : Nat} (hv : (y :: v).Pairwise (Lt cf)) (hy : Lt cf x y) : ∀ z ∈ y :: v, Lt cf x z := by
  intro z hz
  rcases List.mem_cons.1 hz with hz | hz
  · rw [hz]; exact hy
  · exact Lt.trans h hy ((List.pairwise_cons.1 hv).1 z hz)
end
theorem drop_cons {s : List Nat} {m : Nat} (h : m < s.length) : ∃ x, s.drop m = x :: s.drop (m + 1) ∧ s.take (m + 1) = s.take m ++ [x] := ⟨s[m], List.drop_eq_getElem_cons h, by rw [List.take_succ_eq_append_getElem h]⟩
theorem snoc_cases (u : List Nat) : u = [] ∨ ∃ u' y, u = u' ++ [y] := by
  rcases List.eq_nil_or_concat u with h | ⟨u', y, h⟩
  · exact .inl h
  · exact .inr ⟨u', y, by rw [h, List.concat_eq_append]⟩
end Go.Proofs.YtihdlalbgdighaaDoor.Stab
/- Sorting rows, plain: the order that is asked for; the reference's Sort. -/
namespace Go.Proofs.YtihdlalbgdighaaDoor.QV
open Go.RowKit Go.Proofs.YtihdlalbgdighaaDoorW.PrintWords Go.Proofs.YtihdlalbgdighaaDoor.Op Go.Proofs.YtihdlalbgdighaaDoor.Stab
set_option linter.unusedVariables false
set_option linter.unusedSimpArgs false
/-- A total order of which some may be equal. -/
structure Pre {α : Type} (f : α → α → Int) : Prop where
  swap : ∀ x y, f x y < 0 ↔ 0 < f y x
  trans : ∀ x y z, f x y ≤ 0 → f y z ≤ 0 → f x z ≤ 0
theorem Pre.le {α : Type} {f : α → α → Int} (h : Pre f) (x y : α) : f x y ≤ 0 ↔ 0 ≤ f y x := by
  have := h.swap x y; have := h.swap y x; omega
theorem Pre.lt_le {α : Type} {f : α → α → Int} (h : Pre f) {x y z : α} (a : f x y < 0) (b : f y z ≤ 0) : f x z < 0 := by
  have h1 := h.trans x y z; have h2 := h.trans y z x; have e1 := h.swap x y; have e2 := h.swap x z; have e3 := h.swap z x; have e4 := h.swap y x
  omega
theorem Pre.le_lt {α : Type} {f : α → α → Int} (h : Pre f) {x y z : α} (a : f x y ≤ 0) (b : f y z < 0) : f x z < 0 := by
  have h1 := h.trans x y z; have h2 := h.trans z x y; have e1 := h.swap y z; have e2 := h.swap x z; have e3 := h.swap z x; have e4 := h.swap z y
  omega
theorem Pre.neg {α : Type} {f : α → α → Int} (h : Pre f) : Pre (fun x y => -f x y) :=
  ⟨fun x y => by have := h.swap x y; have := h.swap y x; omega, fun x y z a b => by
    have h1 := (h.le y x).2 (by omega)
    have h2 := (h.le z y).2 (by omega)
    have h3 := h.trans z y x h2 h1
    have := (h.le z x).1 h3
    omega⟩
theorem Pre.lex {α : Type} {f g : α → α → Int} (hf : Pre f) (hg : Pre g) : Pre (fun x y => if f x y ≠ 0 then f x y else g x y) := by
  refine ⟨fun x y => ?_, fun x y z a b => ?_⟩
  · have h1 := hf.swap x y; have h2 := hf.swap y x; have h3 := hg.swap x y
    show (if f x y ≠ 0 then f x y else g x y) < 0 ↔ 0 < (if f y x ≠ 0 then f y x else g y x)
    split <;> split <;> omega
  · replace a : (if f x y ≠ 0 then f x y else g x y) ≤ 0 := a
    replace b : (if f y z ≠ 0 then f y z else g y z) ≤ 0 := b
    show (if f x z ≠ 0 then f x z else g x z) ≤ 0
    have t1 := hf.trans x y z; have t2 := hg.trans x y z
    by_cases hxy : f x y = 0
    · rw [if_neg (by omega)] at a
      by_cases hyz : f y z = 0
      · rw [if_neg (by omega)] at b
        by_cases hxz : f x z = 0
        · rw [if_neg (by omega)]; omega
        · rw [if_pos hxz]; omega
      · rw [if_pos hyz] at b
        have := hf.le_lt (by omega : f x y ≤ 0) (by omega : f y z < 0)
        rw [if_pos (by omega)]; omega
    · rw [if_pos hxy] at a
      have hb : f y z ≤ 0 := by
        by_cases hyz : f y z = 0
        · omega
        · rw [if_pos hyz] at b; exact b
      have := hf.lt_le (by omega : f x y < 0) hb
      rw [if_pos (by omega)]; omega
theorem Pre.on {α β : Type} {f : β → β → Int} (h : Pre f) (k : α → β) : Pre (fun x y => f (k x) (k y)) := ⟨fun x y => h.swap _ _, fun x y z => h.trans _ _ _⟩
theorem preV : Pre cmpV := ⟨fun x y => by have := cmpV_swap x y; omega, cmpV_trans⟩
theorem rowsV_swap : ∀ a b : List V, rowsV b a = -rowsV a b
  | [], [] => rfl
  | [], _ :: _ => rfl
  | _ :: _, [] => rfl
  | x :: xs, y :: ys => by
    rw [rowsV, rowsV, rowsV_swap xs ys, cmpV_swap x y]
    by_cases h : cmpV x y = 0
    · rw [if_pos h, if_pos (by omega)]
    · rw [if_neg h, if_neg (by omega)]
theorem rowsV_trans : ∀ a b c : List V, rowsV a b ≤ 0 → rowsV b c ≤ 0 → rowsV a c ≤ 0
  | [], _, [], _, _ => by simp [rowsV]
  | [], _, _ :: _, _, _ => by simp [rowsV]
  | _ :: _, [], _, h, _ => by simp [rowsV] at h
  | _ :: _, _ :: _, [], _, h => by simp [rowsV] at h
  | x :: xs, y :: ys, z :: zs, h1, h2 => by
    rw [rowsV] at h1 h2 ⊢
    have ih := rowsV_trans xs ys zs
    have t := cmpV_trans x y z
    by_cases a : cmpV x y = 0
    · rw [if_pos a] at h1
      by_cases b : cmpV y z = 0
      · rw [if_pos b] at h2
        by_cases c : cmpV x z = 0
        · rw [if_pos c]; exact ih h1 h2
        · rw [if_neg c]; omega
      · rw [if_neg b] at h2
        have := preV.le_lt (by omega : cmpV x y ≤ 0) (by omega : cmpV y z < 0)
        rw [if_neg (by omega)]; omega
    · rw [if_neg a] at h1
      have hb : cmpV y z ≤ 0 := by
        by_cases b : cmpV y z = 0
        · omega
        · rw [if_neg b] at h2; exact h2
      have := preV.lt_le (by omega : cmpV x y < 0) hb
      rw [if_neg (by omega)]; omega
theorem preRows : Pre rowsV := ⟨fun x y => by have := rowsV_swap x y; omega, rowsV_trans⟩
abbrev Ord : Type := S97
/-- The order of rows that is asked for. -/
def ordS : List Ord → Row → Row → Int
  | [], a, b => rowsV (a.map toV) (b.map toV)
  | o :: l, a, b => if (if o.f1 then -cmpV (toV (atS a o.f0)) (toV (atS b o.f0)) else cmpV (toV (atS a o.f0)) (toV (atS b o.f0))) ≠ 0 then (if o.f1 then -cmpV (toV (atS a o.f0)) (toV (atS b o.f0)) else cmpV (toV (atS a o.f0)) (toV (atS b o.f0))) else ordS l a b
theorem preOrd : ∀ l : List Ord, Pre (ordS l)
  | [] => preRows.on (fun a : Row => a.map toV)
  | o :: l => by
    have h : Pre (fun a b : Row => if o.f1 then -cmpV (toV (atS a o.f0)) (toV (atS b o.f0)) else cmpV (toV (atS a o.f0)) (toV (atS b o.f0))) := by
      cases o.f1
      · simpa using preV.on (fun a : Row => toV (atS a o.f0))
      · simpa using (preV.on (fun a : Row => toV (atS a o.f0))).neg
    exact h.lex (preOrd l)
/-- R is xs, sorted: equals as they stood. -/
def Sorts {α : Type} (z : α) (f : α → α → Int) (xs R : List α) : Prop := ∃ S : List Nat, S.Perm (List.range xs.length) ∧ S.Pairwise (Lt (fun i j => f (xs.getD i z) (xs.getD j z))) ∧ R = S.map (fun i => xs.getD i z)
theorem Pre.ok {α : Type} {f : α → α → Int} (h : Pre f) (z : α) (xs : List α) : CmpOk (fun i j => f (xs.getD i z) (xs.getD j z)) := ⟨fun x y => h.swap _ _, fun x y w => h.trans _ _ _⟩
theorem Sorts.len {α : Type} {z : α} {f : α → α → Int} {xs R : List α} (a : Sorts z f xs R) : R.length = xs.length := by
  obtain ⟨S, h1, h2, h3⟩ := a
  rw [h3, List.length_map, h1.length_eq, List.length_range]
theorem map_range {α : Type} (z : α) (xs : List α) : (List.range xs.length).map (fun i => xs.getD i z) = xs := by
  refine List.ext_getElem (by simp) (fun i h1 h2 => ?_)
  simp [List.getD_eq_getElem?_getD, List.getElem?_eq_getElem h2]
theorem Sorts.perm {α : Type} {z : α} {f : α → α → Int} {xs R : List α} (a : Sorts z f xs R) : R.Perm xs := by
  obtain ⟨S, h1, h2, h3⟩ := a
  have := h1.map (fun i => xs.getD i z)
  rw [map_range] at this
  rw [h3]; exact this
theorem Sorts.sorted {α : Type} {z : α} {f : α → α → Int} {xs R : List α} (a : Sorts z f xs R) : R.Pairwise (fun x y => f x y ≤ 0) := by
  obtain ⟨S, h1, h2, h3⟩ := a
  rw [h3, List.pairwise_map]
  refine h2.imp (fun h => ?_)
  rcases h with h | ⟨h, _⟩
  · exact Int.le_of_lt h
  · exact Int.le_of_eq h
/-- Of a list sorted so, one more behind. -/
theorem Sorts.snoc {α : Type} {z : α} {f : α → α → Int} (h : Pre f) {xs : List α} {x : α} {u v : List α} (a : Sorts z f xs (u ++ v)) (hv : ∀ y ∈ v, f x y < 0) (hu : ∀ y ∈ u, ¬ f x y < 0) : Sorts z f (xs ++ [x]) (u ++ x :: v) := by
  obtain ⟨S, h1, h2, h3⟩ := a
  obtain ⟨Su, Sv, rfl, hSu, hSv⟩ : ∃ Su Sv, S = Su ++ Sv ∧ u = Su.map (fun i => xs.getD i z) ∧ v = Sv.map (fun i => xs.getD i z) := by
    refine ⟨S.take u.length, S.drop u.length, (List.take_append_drop _ _).symm, ?_, ?_⟩
    · rw [List.map_take, ← h3]; simp
    · rw [List.map_drop, ← h3]; simp
  have hlt : ∀ i ∈ Su ++ Sv, i < xs.length := fun i hi => List.mem_range.1 (h1.mem_iff.1 hi)
  have hg : ∀ i, i < xs.length → (xs ++ [x]).getD i z = xs.getD i z := fun i hi => by
    rw [List.getD_eq_getElem?_getD, List.getD_eq_getElem?_getD, List.getElem?_append_left hi]
  have hx : (xs ++ [x]).getD xs.length z = x := by simp [List.getD_eq_getElem?_getD]
  have hmu : Su.map (fun i => (xs ++ [x]).getD i z) = u := by
    rw [hSu]
    exact List.map_congr_left (fun i hi => hg i (hlt i (by simp [hi])))
  have hmv : Sv.map (fun i => (xs ++ [x]).getD i z) = v := by
    rw [hSv]
    exact List.map_congr_left (fun i hi => hg i (hlt i (by simp [hi])))
  refine ⟨Su ++ xs.length :: Sv, ?_, ?_, ?_⟩
  · rw [List.length_append, List.length_singleton, List.range_succ]
    exact List.perm_middle.trans ((List.Perm.cons _ h1).trans (List.perm_append_singleton _ _).symm)
  · have hp : ∀ i j, i ∈ Su ++ Sv → j ∈ Su ++ Sv → Lt (fun i j => f (xs.getD i z) (xs.getD j z)) i j → Lt (fun i j => f ((xs ++ [x]).getD i z) ((xs ++ [x]).getD j z)) i j := fun i j hi hj hl => by
      show f ((xs ++ [x]).getD i z) ((xs ++ [x]).getD j z) < 0 ∨ (f ((xs ++ [x]).getD i z) ((xs ++ [x]).getD j z) = 0 ∧ i < j)
      rw [hg i (hlt i hi), hg j (hlt j hj)]
      exact hl
    have h2' := List.pairwise_append.1 h2
    refine List.pairwise_append.2 ⟨?_, List.pairwise_cons.2 ⟨?_, ?_⟩, ?_⟩
    · exact h2'.1.imp_of_mem (fun hi hj hl => hp _ _ (by simp [hi]) (by simp [hj]) hl)
    · intro j hj
      refine .inl ?_
      show f _ _ < 0
      rw [hx, hg j (hlt j (by simp [hj]))]
      exact hv _ (by rw [hSv]; exact List.mem_map_of_mem hj)
    · exact h2'.2.1.imp_of_mem (fun hi hj hl => hp _ _ (by simp [hi]) (by simp [hj]) hl)
    · intro i hi j hj
      rcases List.mem_cons.1 hj with hj | hj
      · subst hj
        refine Lt.of_not (h.ok z (xs ++ [x])) (hlt i (by simp [hi])) ?_
        show ¬ f _ _ < 0
        rw [hx, hg i (hlt i (by simp [hi]))]
        exact hu _ (by rw [hSu]; exact List.mem_map_of_mem hi)
      · exact hp _ _ (by simp [hi]) (by simp [hj]) (h2'.2.2 i hi j hj)
  · rw [List.map_append, List.map_cons, hmu, hmv, hx]
theorem Sorts.nil {α : Type} (z : α) (f : α → α → Int) : Sorts z f [] [] := ⟨[], by simp, by simp, rfl⟩
end Go.Proofs.YtihdlalbgdighaaDoor.QV
/- As XRoundW, where S is asked for only until operation d has gone; what reads no world at all is taken at any time. -/
namespace Go.Proofs.YtihdlalbgdighaaDoor.SeqX
open Go Go.RowKit Go.Proofs.YtihdlalbgdighaaDoor.SeqW
set_option linter.unusedVariables false
section
variable {l : Nat} {P : Program} {ops : Array Oper} {Q : Exit → Act → World → Prop} {S : World → Prop} {d : Nat}
def Off (d i : Nat) (listed : Array Bool) : Prop := i = d ∨ listed.getD d false = true
def wpAnyX (l : Nat) (P : Program) (ops : Array Oper) (Q : Exit → Act → World → Prop) (S : World → Prop) (d : Nat) : Nat → Array Bool → Act → World → Prop
  | 0, listed, a, w => Region.ready .any ops listed = [] ∧ Q .normal a w
  | fuel + 1, listed, a, w => (Region.ready .any ops listed = [] → Q .normal a w) ∧
    ∀ i ∈ Region.ready .any ops listed, wpOpIn (Rn l) 0 P ops Q i (fun a' w' => (Off d i listed ∨ S w') ∧ wpAnyX l P ops Q S d fuel (listed.setIfInBounds i true) a' w') a w
theorem wpAnyIn_of_X : ∀ (fuel : Nat) (listed : Array Bool) (a : Act) (w : World), wpAnyX l P ops Q S d fuel listed a w → wpAnyIn (Rn l) 0 P .any ops Q fuel listed a w
  | 0, _, _, _, h => h
  | fuel + 1, _, _, _, h => ⟨h.1, fun i hi => wpOpIn_mono (fun a' w' h' => wpAnyIn_of_X fuel _ a' w' h'.2) (h.2 i hi)⟩
theorem getD_set_other {listed : Array Bool} {i d : Nat} (h : i ≠ d) : (listed.setIfInBounds i true).getD d false = listed.getD d false := by
  rw [Array.getD_eq_getD_getElem?, Array.getD_eq_getD_getElem?, Array.getElem?_setIfInBounds_ne h]
theorem Off.set {listed : Array Bool} {i j d : Nat} (h : Off d j listed) : Off d j (listed.setIfInBounds i true) := by
  rcases h with h | h
  · exact .inl h
  · by_cases hi : i = d
    · subst hi
      refine .inr ?_
      rw [Array.getD_eq_getD_getElem?] at h ⊢
      rcases Nat.lt_or_ge i listed.size with hl | hl
      · simp [hl]
      · simp [Array.getElem?_eq_none hl] at h
    · exact .inr (by rw [getD_set_other hi]; exact h)
theorem Off.unset {listed : Array Bool} {i j d : Nat} (hi : i ≠ d) (h : Off d j (listed.setIfInBounds i true)) : Off d j listed := by
  rcases h with h | h
  · exact .inl h
  · exact .inr (by rwa [getD_set_other hi] at h)
/-- What reads the world: while S holds. -/
theorem wpAnyX_first {i : Nat} {oi : Oper} {v : Value} (hnd : noDefer ops = true) (hid : i ≠ d) (hwd : waitsOn ops d i = true) (hi : ops[i]? = some oi) (hsel : ∀ (j : Nat) (o : Oper) cs b, ops[j]? = some o → o.op ≠ .select cs b)
    (hQ : ∀ c a w, Q (.panic c) (a.put oi.dst v) w → Q (.panic c) a w) :
    ∀ (fuel : Nat) (listed : Array Bool) (a : Act) (w : World),
      (∀ j oj, ops[j]? = some oj → j ≠ i → listed.getD j true = false → (∀ e ∈ oj.after, Region.binds .any e = true → e.on ≠ i) → oi.apart ops oj = true) →
      i ∈ Region.ready .any ops listed → YieldsIf P ops S oi v a → S w → listed.getD d false = false →
      wpAnyX l P ops Q S d fuel (listed.setIfInBounds i true) (a.put oi.dst v) w → wpAnyX l P ops Q S d (fuel + 1) listed a w := by
  intro fuel
  induction fuel with
  | zero =>
    intro listed a w _ hr hy hS hd H
    refine ⟨fun h => (by rw [h] at hr; cases hr), fun j hj => ?_⟩
    by_cases hji : j = i
    · subst hji; exact YieldsIf.wpOpR hnd hi hy hS ⟨.inr hS, H⟩
    · have := ready_mono hj hji
      rw [H.1] at this
      cases this
  | succ fuel ih =>
    intro listed a w hfree hr hy hS hd H
    refine ⟨fun h => (by rw [h] at hr; cases hr), fun j hj => ?_⟩
    by_cases hji : j = i
    · subst hji; exact YieldsIf.wpOpR hnd hi hy hS ⟨.inr hS, H⟩
    · have h1 := H.2 j (ready_mono hj hji)
      obtain ⟨hjun, oj, hoj, hall⟩ := mem_ready.1 hj
      have hnot : ∀ e ∈ oj.after, Region.binds .any e = true → e.on ≠ i := fun e he hb heq => by
        have h1 := hall e he hb
        have h0 := (mem_ready.1 hr).1
        rw [heq] at h1
        rcases Nat.lt_or_ge i listed.size with h' | h'
        · simp [h'] at h0 h1; rw [h0] at h1; cases h1
        · simp [Array.getElem?_eq_none h'] at h1
      have h2 := wpOpR_putIf hnd hoj (hfree j oj hoj hji hjun hnot) (fun cs b => hsel i oi cs b hi) (fun cs b => hsel j oj cs b hoj) hQ hy h1
      have hfree' : ∀ k ok, ops[k]? = some ok → k ≠ i → (listed.setIfInBounds j true).getD k true = false →
          (∀ e ∈ ok.after, Region.binds .any e = true → e.on ≠ i) → oi.apart ops ok = true := fun k ok hk hki hun hno => by
        refine hfree k ok hk hki ?_ hno
        by_cases hjk : j = k
        · subst hjk; exact hjun
        · rw [getD_set_ne true hjk] at hun; exact hun
      have hjd : j ≠ d := by
        rintro rfl
        unfold waitsOn at hwd
        rw [hoj] at hwd
        obtain ⟨q, hq, hqb⟩ := List.any_eq_true.1 hwd
        rw [Array.mem_toList_iff] at hq
        rw [Bool.and_eq_true] at hqb
        exact hnot q hq hqb.1 (by simpa using hqb.2)
      have hoff : ¬ Off d j (listed.setIfInBounds i true) := fun h => by
        rcases Off.unset hid h with h | h
        · exact hjd h
        · rw [hd] at h; cases h
      refine wpOpIn_mono (fun a' w' h3 => ⟨.inr (h3.2.1.resolve_left hoff), ih (listed.setIfInBounds j true) a' w' hfree' (ready_mono hr (Ne.symm hji)) h3.1 (h3.2.1.resolve_left hoff) (by rw [getD_set_other hjd]; exact hd) ?_⟩) h2
      rw [Array.setIfInBounds_comm _ _ hji]
      exact h3.2.2
/-- What reads no world. -/
theorem wpAnyX_firstP {i : Nat} {oi : Oper} {v : Value} (hnd : noDefer ops = true) (hid : i ≠ d) (hi : ops[i]? = some oi) (hsel : ∀ (j : Nat) (o : Oper) cs b, ops[j]? = some o → o.op ≠ .select cs b)
    (hQ : ∀ c a w, Q (.panic c) (a.put oi.dst v) w → Q (.panic c) a w) :
    ∀ (fuel : Nat) (listed : Array Bool) (a : Act) (w : World),
      (∀ j oj, ops[j]? = some oj → j ≠ i → listed.getD j true = false → (∀ e ∈ oj.after, Region.binds .any e = true → e.on ≠ i) → oi.apart ops oj = true) →
      i ∈ Region.ready .any ops listed → YieldsIf P ops (fun _ => True) oi v a → (listed.getD d false = true ∨ S w) →
      wpAnyX l P ops Q S d fuel (listed.setIfInBounds i true) (a.put oi.dst v) w → wpAnyX l P ops Q S d (fuel + 1) listed a w := by
  intro fuel
  induction fuel with
  | zero =>
    intro listed a w _ hr hy hS H
    refine ⟨fun h => (by rw [h] at hr; cases hr), fun j hj => ?_⟩
    by_cases hji : j = i
    · subst hji; exact YieldsIf.wpOpR hnd hi hy trivial ⟨hS.imp .inr id, H⟩
    · have := ready_mono hj hji
      rw [H.1] at this
      cases this
  | succ fuel ih =>
    intro listed a w hfree hr hy hS H
    refine ⟨fun h => (by rw [h] at hr; cases hr), fun j hj => ?_⟩
    by_cases hji : j = i
    · subst hji; exact YieldsIf.wpOpR hnd hi hy trivial ⟨hS.imp .inr id, H⟩
    · have h1 := H.2 j (ready_mono hj hji)
      obtain ⟨hjun, oj, hoj, hall⟩ := mem_ready.1 hj
      have hnot : ∀ e ∈ oj.after, Region.binds .any e = true → e.on ≠ i := fun e he hb heq => by
        have h1 := hall e he hb
        have h0 := (mem_ready.1 hr).1
        rw [heq] at h1
        rcases Nat.lt_or_ge i listed.size with h' | h'
        · simp [h'] at h0 h1; rw [h0] at h1; cases h1
        · simp [Array.getElem?_eq_none h'] at h1
      have h2 := wpOpR_putIf hnd hoj (hfree j oj hoj hji hjun hnot) (fun cs b => hsel i oi cs b hi) (fun cs b => hsel j oj cs b hoj) hQ hy h1
      have hfree' : ∀ k ok, ops[k]? = some ok → k ≠ i → (listed.setIfInBounds j true).getD k true = false →
          (∀ e ∈ ok.after, Region.binds .any e = true → e.on ≠ i) → oi.apart ops ok = true := fun k ok hk hki hun hno => by
        refine hfree k ok hk hki ?_ hno
        by_cases hjk : j = k
        · subst hjk; exact hjun
        · rw [getD_set_ne true hjk] at hun; exact hun
      have hjl : j < listed.size := by
        rcases Nat.lt_or_ge j listed.size with h | h
        · exact h
        · rw [Array.getD_eq_getD_getElem?, Array.getElem?_eq_none h] at hjun; simp at hjun
      have hres : ∀ w' : World, (Off d j (listed.setIfInBounds i true) ∨ S w') → Off d j listed ∨ S w' := fun w' h => h.imp (Off.unset hid) id
      refine wpOpIn_mono (fun a' w' h3 => ⟨hres w' h3.2.1, ih (listed.setIfInBounds j true) a' w' hfree' (ready_mono hr (Ne.symm hji)) h3.1 ?_ ?_⟩) h2
      · rcases hres w' h3.2.1 with h | h
        · refine .inl ?_
          rcases h with h | h
          · subst h
            rw [Array.getD_eq_getD_getElem?]
            simp [hjl]
          · exact (Off.set (j := d + 1) (.inr h)).resolve_left (by omega)
        · exact .inr h
      · rw [Array.setIfInBounds_comm _ _ hji]
        exact h3.2.2
theorem wpAnyX_take {i : Nat} {oi : Oper} {v : Value} {fuel : Nat} {listed : Array Bool} {a : Act} {w : World} (hnd : noDefer ops = true) (hid : (i == d) = false) (hwd : waitsOn ops d i = true) (hi : ops[i]? = some oi)
    (hs : Region.noSelect ops = true) (hf : Region.free .any ops listed i = true) (hr : (Region.ready .any ops listed).contains i = true) (hd : listed.getD d false = false)
    (hQ : ∀ c a w, Q (.panic c) (a.put oi.dst v) w → Q (.panic c) a w) (hy : YieldsIf P ops S oi v a) (hS : S w)
    (h : wpAnyX l P ops Q S d fuel (listed.setIfInBounds i true) (a.put oi.dst v) w) : wpAnyX l P ops Q S d (fuel + 1) listed a w :=
  wpAnyX_first hnd (by simpa using hid) hwd hi (Region.noSelect_spec hs) hQ fuel listed a w (Region.free_spec hi hf) (by simpa using hr) hy hS hd h
theorem wpAnyX_pure {i : Nat} {oi : Oper} {v : Value} {fuel : Nat} {listed : Array Bool} {a : Act} {w : World} (hnd : noDefer ops = true) (hid : (i == d) = false) (hi : ops[i]? = some oi)
    (hs : Region.noSelect ops = true) (hf : Region.free .any ops listed i = true) (hr : (Region.ready .any ops listed).contains i = true)
    (hQ : ∀ c a w, Q (.panic c) (a.put oi.dst v) w → Q (.panic c) a w) (hy : YieldsIf P ops (fun _ => True) oi v a) (hS : S w)
    (h : wpAnyX l P ops Q S d fuel (listed.setIfInBounds i true) (a.put oi.dst v) w) : wpAnyX l P ops Q S d (fuel + 1) listed a w :=
  wpAnyX_firstP hnd (by simpa using hid) hi (Region.noSelect_spec hs) hQ fuel listed a w (Region.free_spec hi hf) (by simpa using hr) hy (.inr hS) h
theorem wpAnyX_one {i : Nat} {o : Oper} {fuel : Nat} {listed : Array Bool} {a : Act} {w : World} (hnd : noDefer ops = true) (hr : Region.ready .any ops listed = [i]) (ho : ops[i]? = some o)
    (h : ∀ K' : Act → World → Prop, Shut (∀ a w, (Off d i listed ∨ S w) → wpAnyX l P ops Q S d fuel (listed.setIfInBounds i true) a w → K' a w) → if Region.wanted o (yielded ops a.tmps) = true then Oper.wp P o a w K' Q else K' (a.put o.dst undef) w) :
    wpAnyX l P ops Q S d (fuel + 1) listed a w := by
  refine ⟨fun h0 => (by rw [hr] at h0; cases h0), fun j hj => ?_⟩
  rw [hr] at hj
  obtain rfl := List.mem_singleton.1 hj
  have := h (fun a' w' => (Off d j listed ∨ S w') ∧ wpAnyX l P ops Q S d fuel (listed.setIfInBounds j true) a' w') (fun a w hs hw => ⟨hs, hw⟩)
  unfold Go.wpOpIn
  simp only [ho]
  split
  · rename_i hw; rw [if_pos hw] at this; exact op_in l 0 (noDefer_spec hnd j o ho) this
  · rename_i hw; rw [if_neg hw] at this; exact ⟨fun _ _ => trivial, this⟩
theorem wpAnyX_done {listed : Array Bool} {a : Act} {w : World} (hr : Region.ready .any ops listed = []) (h : Q .normal a w) : ∀ fuel, wpAnyX l P ops Q S d fuel listed a w
  | 0 => ⟨hr, h⟩
  | _ + 1 => ⟨fun _ => h, by rw [hr]; simp⟩
theorem wpIn_region_X (d : Nat) {id : Nat} {a : Act} {w : World} (hm : P.follows .mixedOrders = true) (hS : S w.drew)
    (h : S w.drew → wpAnyX l P ops Q S d ops.size (Array.replicate ops.size false) a w.drew) : (Code.region id ops true).wpIn (Rn l) 0 P Q a w :=
  wpIn_region_any hm (wpAnyIn_of_X _ _ _ _ (h hS))
end
end Go.Proofs.YtihdlalbgdighaaDoor.SeqX
/- slices.SortStableFunc over rows, walked: insertion sort of a part. -/
namespace Go.Proofs.YtihdlalbgdighaaDoor.QV
open Go.RowKit Go.Proofs.YtihdlalbgdighaaDoorW.PrintWords Go.Proofs.YtihdlalbgdighaaDoor.SeqW Go.Shelf Go.Proofs.YtihdlalbgdighaaDoor.Op Go.Proofs.YtihdlalbgdighaaDoor.Stab
set_option linter.unusedVariables false
set_option linter.unusedSimpArgs false
abbrev tEl : Nat := 62

/-- A block that holds elements, one behind the other. -/
def El (enc : Nat → Value) (rest : List Value) (g : Nat) (xs : List Nat) (W : World) : Prop := W.heap[g]? = some (.cells (xs.map enc ++ rest).toArray tEl (0, 0))
theorem El.at {enc : Nat → Value} {rest : List Value} {g : Nat} {A B : List Nat} {x : Nat} {W : World} (h : El enc rest g (A ++ x :: B) W) {i : Nat} (hi : A.length = i) : W.cell? ⟨g, i, none⟩ = some (enc x) := by
  subst hi
  rw [blk_cell h]
  simp
theorem El.frozen {enc : Nat → Value} {rest : List Value} {g : Nat} {xs : List Nat} {W : World} (h : El enc rest g xs W) (i : Nat) : W.frozen? ⟨g, i, none⟩ = false := blk_frozen h i
theorem El.set {enc : Nat → Value} {rest : List Value} {g : Nat} {A B : List Nat} {x y : Nat} {W : World} (h : El enc rest g (A ++ x :: B) W) {i : Nat} (hi : A.length = i) : El enc rest g (A ++ y :: B) (W.setCell ⟨g, i, none⟩ (enc y)) := by
  subst hi
  have h2 := blk_set h A.length (enc y)
  refine h2.trans ?_
  simp
theorem El.kept {enc : Nat → Value} {rest : List Value} {g : Nat} {xs : List Nat} {W W' : World} (h : El enc rest g xs W) (hb : Below W.heap.size W W') : El enc rest g xs W' := blk_below h hb
theorem El.cast {enc : Nat → Value} {rest : List Value} {g : Nat} {xs ys : List Nat} {W : World} (h : El enc rest g xs W) (e : xs = ys) : El enc rest g ys W := e ▸ h
/-- The comparison, in whatever world in which but the elements' block is as it was. -/
def CmpAt (cf : Nat → Nat → Int) (enc : Nat → Value) (gc : Nat) (lb : Array Value) (g : Nat) (w0 : World) : Prop :=
  ∀ x y V, Seq.Kpt (fun i => i = g) w0 V → Calls Tryd.prog gc (#[enc x, enc y] ++ lb) V fun e V' => e = .returned (.int .i64 (cf x y)) ∧ Below V.heap.size V V'

set_option maxRecDepth 100000 in
set_option maxHeartbeats 2000000 in
theorem ins_any (n c a b g : Nat) (cf : Nat → Nat → Int) (gc : Nat) (lb : Array Value) (hcf : CmpOk cf) (enc : Nat → Value) (rest : List Value) (p s q : List Nat) (w0 W : World)
    (hx : El enc rest g (p ++ s ++ q) W) (hp : p.length = a) (hs : a + s.length = b) (hn : (p ++ s ++ q).length = n) (hn2 : n ≤ 5864062014805) (hasc : s.Pairwise (· < ·)) (hk : Seq.Kpt (fun i => i = g) w0 W)
    (hcmp : CmpAt cf enc gc lb g w0) (eg : ∀ args w, (callFunc gc args).run Tryd.prog w = .ok (.enter gc args) w) (hform : ∀ x, ∃ A m k, enc x = .slice A m k) :
    Calls Tryd.prog 100 #[.slice (some ⟨g, 0, none⟩) n c, .int .i64 a, .int .i64 b, .func (.func gc) #[] lb] W fun e W' => e = .returned (.tuple #[]) ∧
      ∃ s', s'.Perm s ∧ s'.Pairwise (Lt cf) ∧ Seq.Kpt (fun i => i = g) W W' ∧ El enc rest g (p ++ s' ++ q) W' := by
  have hlen : a + s.length + q.length = n := by rw [← hn, ← hp]; simp; omega
  clear hn
  go_enter Tryd.func100, Tryd.ntmps100
  go_wp2_with fail
  go_loopw [8] (fun i wr => ∃ m im : Nat, i = .int .i64 (im : Int) ∧ a + m = im ∧ 1 ≤ m ∧ m ≤ s.length + 1 ∧ (∃ s1, s1.Perm (s.take m) ∧ s1.Pairwise (Lt cf) ∧ El enc rest g (p ++ (s1 ++ s.drop m) ++ q) wr) ∧ Seq.Kpt (fun i => i = g) W wr) (fun i _ => b + 1 - (intOf i).toNat)
  case atStart =>
    refine ⟨1, a + 1, by go_num, rfl, by omega, by omega, ⟨s.take 1, List.Perm.refl _, ?_, by rw [List.take_append_drop]; exact hx⟩, Seq.Kpt.refl _ _⟩
    rcases s with _ | ⟨x, s⟩ <;> simp
  case round =>
    obtain ⟨m, im, rfl, him, hm1, hm2, ⟨s1, hpm, hpw, hE⟩, hkr⟩ := hrel
    by_cases hlt : m < s.length
    · have hlz : (im : Int) < (b : Int) := by omega
      obtain ⟨x, hd, ht⟩ := drop_cons hlt
      rw [hd] at hE
      go_wp2_with fail
      have hml : s1.length = m := by rw [hpm.length_eq, List.length_take]; omega
      have hxb : ∀ y ∈ s1, y < x := by
        intro y hy
        have h1 : y ∈ s.take m := hpm.mem_iff.1 hy
        have h2 : (s.take m ++ x :: s.drop (m + 1)).Pairwise (· < ·) := by rw [← hd, List.take_append_drop]; exact hasc
        exact (List.pairwise_append.1 h2).2.2 y h1 x (by simp)
      obtain ⟨R, hR⟩ : ∃ R, s.drop (m + 1) = R := ⟨_, rfl⟩
      have hRl : R.length + (m + 1) = s.length := by rw [← hR, List.length_drop]; omega
      rw [hR] at hE
      have HT := Lib.hid ht
      have HD := Lib.hid hd
      have HPM := Lib.hid hpm
      clear ht hd hpm
      have fin : ∀ u v : List Nat, s1 = u ++ v → (∀ y ∈ v, Lt cf x y) → (∀ y ∈ u, Lt cf y x) → ∃ s2 : List Nat, s2 = u ++ x :: v ∧ s2.Perm (s.take (m + 1)) ∧ s2.Pairwise (Lt cf) := by
        intro u v huv hv hu
        have hpw' := hpw
        rw [huv] at hpw'
        refine ⟨_, rfl, ?_, ?_⟩
        · rw [HT.out]
          refine List.perm_middle.trans ?_
          rw [← huv]
          exact (List.Perm.cons x HPM.out).trans (List.perm_append_singleton x _).symm
        · refine pw_append (List.pairwise_append.1 hpw').1 (List.pairwise_cons.2 ⟨hv, (List.pairwise_append.1 hpw').2.1⟩) ?_
          intro y hy z hz
          rcases List.mem_cons.1 hz with hz | hz
          · rw [hz]; exact hu y hy
          · exact (List.pairwise_append.1 hpw').2.2 y hy z hz
      have FIN := Lib.hid fin
      clear fin
      go_loopw [9] (fun j wq => ∃ (u v : List Nat) (jm : Nat), j = .int .i64 (jm : Int) ∧ a + u.length = jm ∧ s1 = u ++ v ∧ (∀ y ∈ v, Lt cf x y) ∧ El enc rest g (p ++ (u ++ x :: (v ++ R)) ++ q) wq ∧ Seq.Kpt (fun i => i = g) W wq) (fun j _ => (intOf j).toNat)
      case atStart => exact ⟨s1, [], im, rfl, by rw [hml]; exact him, by simp, by simp, hE.cast (by simp), hkr⟩
      case round =>
        obtain ⟨u, v, jm, rfl, hjm, huv, hv, hE2, hk2⟩ := hrel
        rcases snoc_cases u with rfl | ⟨u', y, rfl⟩
        · obtain rfl : a = jm := by simpa using hjm
          have hg0 : decide ((a : Int) > (a : Int)) = false := by simp
          go_wp2_with fail
          refine (wpIn_wide (n := 0)).1 ?_
          refine wpIn_region_R (l := 0) 17 (S := fun _ => True) (by kernel_rfl) trivial (fun hS0 => ?_)
          refine wpAnyR_take (i := 0) (oi := ⟨some 18, _, _, _, _, _⟩) (v := ?_) (by kernel_rfl) (by kernel_rfl) rfl (by kernel_rfl) (by kernel_rfl) (by kernel_rfl) (fun _ _ _ h => h) (Or.inl ⟨by rfl, ?_⟩) (by assumption) ?_
          rotate_left
          · intro w hSw; (try dsimp only at hSw); (try go_split_ands); go_simp; (try (with_reducible rfl))
          (try simp only [Act.put, List.setIfInBounds_toArray, List.set_cons_zero, List.set_cons_succ])
          refine wpAnyR_take (i := 1) (oi := ⟨some 19, _, _, _, _, _⟩) (v := ?_) (by kernel_rfl) (by kernel_rfl) rfl (by kernel_rfl) (by kernel_rfl) (by kernel_rfl) (fun _ _ _ h => h) (Or.inl ⟨by rfl, ?_⟩) (by assumption) ?_
          rotate_left
          · intro w hSw; (try dsimp only at hSw); (try go_split_ands); go_simp; (try (with_reducible rfl))
          (try simp only [Act.put, List.setIfInBounds_toArray, List.set_cons_zero, List.set_cons_succ])
          refine wpAnyR_take (i := 2) (oi := ⟨some 20, _, _, _, _, _⟩) (v := ?_) (by kernel_rfl) (by kernel_rfl) rfl (by kernel_rfl) (by kernel_rfl) (by kernel_rfl) (fun _ _ _ h => h) (Or.inl ⟨by rfl, ?_⟩) (by assumption) ?_
          rotate_left
          · intro w hSw; (try dsimp only at hSw); (try go_split_ands); go_simp; (try (with_reducible rfl))
          (try simp only [Act.put, List.setIfInBounds_toArray, List.set_cons_zero, List.set_cons_succ])
          refine wpAnyR_take (i := 3) (oi := ⟨some 21, _, _, _, _, _⟩) (v := ?_) (by kernel_rfl) (by kernel_rfl) rfl (by kernel_rfl) (by kernel_rfl) (by kernel_rfl) (fun _ _ _ h => h) (Or.inl ⟨by rfl, ?_⟩) (by assumption) ?_
          rotate_left
          · intro w hSw; (try dsimp only at hSw); (try go_split_ands); go_simp; (try (with_reducible rfl))
          (try simp only [Act.put, List.setIfInBounds_toArray, List.set_cons_zero, List.set_cons_succ])
          refine wpAnyR_take (i := 4) (oi := ⟨some 22, _, _, _, _, _⟩) (v := undef) (by kernel_rfl) (by kernel_rfl) rfl (by kernel_rfl) (by kernel_rfl) (by kernel_rfl) (fun _ _ _ h => h) (Or.inr ⟨by rfl, rfl⟩) (by assumption) ?_
          (try simp only [Act.put, List.setIfInBounds_toArray, List.set_cons_zero, List.set_cons_succ])
          refine wpAnyR_take (i := 5) (oi := ⟨some 23, _, _, _, _, _⟩) (v := undef) (by kernel_rfl) (by kernel_rfl) rfl (by kernel_rfl) (by kernel_rfl) (by kernel_rfl) (fun _ _ _ h => h) (Or.inr ⟨by rfl, rfl⟩) (by assumption) ?_
          (try simp only [Act.put, List.setIfInBounds_toArray, List.set_cons_zero, List.set_cons_succ])
          refine wpAnyR_take (i := 6) (oi := ⟨some 24, _, _, _, _, _⟩) (v := undef) (by kernel_rfl) (by kernel_rfl) rfl (by kernel_rfl) (by kernel_rfl) (by kernel_rfl) (fun _ _ _ h => h) (Or.inr ⟨by rfl, rfl⟩) (by assumption) ?_
          (try simp only [Act.put, List.setIfInBounds_toArray, List.set_cons_zero, List.set_cons_succ])
          refine wpAnyR_take (i := 7) (oi := ⟨some 25, _, _, _, _, _⟩) (v := undef) (by kernel_rfl) (by kernel_rfl) rfl (by kernel_rfl) (by kernel_rfl) (by kernel_rfl) (fun _ _ _ h => h) (Or.inr ⟨by rfl, rfl⟩) (by assumption) ?_
          (try simp only [Act.put, List.setIfInBounds_toArray, List.set_cons_zero, List.set_cons_succ])
          refine wpAnyR_take (i := 8) (oi := ⟨some 26, _, _, _, _, _⟩) (v := undef) (by kernel_rfl) (by kernel_rfl) rfl (by kernel_rfl) (by kernel_rfl) (by kernel_rfl) (fun _ _ _ h => h) (Or.inr ⟨by rfl, rfl⟩) (by assumption) ?_
          (try simp only [Act.put, List.setIfInBounds_toArray, List.set_cons_zero, List.set_cons_succ])
          refine wpAnyR_take (i := 9) (oi := ⟨some 27, _, _, _, _, _⟩) (v := undef) (by kernel_rfl) (by kernel_rfl) rfl (by kernel_rfl) (by kernel_rfl) (by kernel_rfl) (fun _ _ _ h => h) (Or.inr ⟨by rfl, rfl⟩) (by assumption) ?_
          (try simp only [Act.put, List.setIfInBounds_toArray, List.set_cons_zero, List.set_cons_succ])
          refine wpAnyR_take (i := 10) (oi := ⟨some 28, _, _, _, _, _⟩) (v := undef) (by kernel_rfl) (by kernel_rfl) rfl (by kernel_rfl) (by kernel_rfl) (by kernel_rfl) (fun _ _ _ h => h) (Or.inr ⟨by rfl, rfl⟩) (by assumption) ?_
          (try simp only [Act.put, List.setIfInBounds_toArray, List.set_cons_zero, List.set_cons_succ])
          refine wpAnyR_take (i := 11) (oi := ⟨some 29, _, _, _, _, _⟩) (v := undef) (by kernel_rfl) (by kernel_rfl) rfl (by kernel_rfl) (by kernel_rfl) (by kernel_rfl) (fun _ _ _ h => h) (Or.inr ⟨by rfl, rfl⟩) (by assumption) ?_
          (try simp only [Act.put, List.setIfInBounds_toArray, List.set_cons_zero, List.set_cons_succ])
          refine wpAnyR_take (i := 12) (oi := ⟨some 30, _, _, _, _, _⟩) (v := undef) (by kernel_rfl) (by kernel_rfl) rfl (by kernel_rfl) (by kernel_rfl) (by kernel_rfl) (fun _ _ _ h => h) (Or.inr ⟨by rfl, rfl⟩) (by assumption) ?_
          (try simp only [Act.put, List.setIfInBounds_toArray, List.set_cons_zero, List.set_cons_succ])
          refine wpAnyR_take (i := 13) (oi := ⟨some 31, _, _, _, _, _⟩) (v := undef) (by kernel_rfl) (by kernel_rfl) rfl (by kernel_rfl) (by kernel_rfl) (by kernel_rfl) (fun _ _ _ h => h) (Or.inr ⟨by rfl, rfl⟩) (by assumption) ?_
          (try simp only [Act.put, List.setIfInBounds_toArray, List.set_cons_zero, List.set_cons_succ])
          refine wpAnyR_take (i := 14) (oi := ⟨some 32, _, _, _, _, _⟩) (v := undef) (by kernel_rfl) (by kernel_rfl) rfl (by kernel_rfl) (by kernel_rfl) (by kernel_rfl) (fun _ _ _ h => h) (Or.inr ⟨by rfl, rfl⟩) (by assumption) ?_
          (try simp only [Act.put, List.setIfInBounds_toArray, List.set_cons_zero, List.set_cons_succ])
          refine wpAnyR_take (i := 15) (oi := ⟨some 33, _, _, _, _, _⟩) (v := undef) (by kernel_rfl) (by kernel_rfl) rfl (by kernel_rfl) (by kernel_rfl) (by kernel_rfl) (fun _ _ _ h => h) (Or.inr ⟨by rfl, rfl⟩) (by assumption) ?_
          (try simp only [Act.put, List.setIfInBounds_toArray, List.set_cons_zero, List.set_cons_succ])
          refine wpAnyR_take (i := 16) (oi := ⟨some 34, _, _, _, _, _⟩) (v := ?_) (by kernel_rfl) (by kernel_rfl) rfl (by kernel_rfl) (by kernel_rfl) (by kernel_rfl) (fun _ _ _ h => h) (Or.inl ⟨by rfl, ?_⟩) (by assumption) ?_
          rotate_left
          · intro w hSw; (try dsimp only at hSw); (try go_split_ands); go_simp; (try (with_reducible rfl))
          (try simp only [Act.put, List.setIfInBounds_toArray, List.set_cons_zero, List.set_cons_succ])
          refine wpAnyR_done (by kernel_rfl) ?_ _
          go_wp2
          go_roundw
          case rel =>
            obtain ⟨s2, he2, hp2, hw2⟩ := FIN.out [] v huv hv (by simp)
            exact ⟨m + 1, im + 1, by go_num, by omega, by omega, by omega, ⟨s2, hp2, hw2, by rw [hR, he2]; exact El.cast hE2 (by simp)⟩, hk2.trans (Seq.Kpt.drew _ _) (fun _ _ h => h.elim id id)⟩
          case measure => simp [intOf]; omega
        · obtain ⟨J, hJ⟩ : ∃ J : Nat, a + u'.length = J := ⟨_, rfl⟩
          obtain ⟨I, hI⟩ : ∃ I : Nat, J + 1 = I := ⟨_, rfl⟩
          obtain rfl : I = jm := by rw [← hjm, ← hI, ← hJ]; simp; omega
          have hg1 : (a : Int) < (I : Int) := by omega
          have hg2 : a < I := by omega
          have hj1 : (I : Int) - 1 = (J : Int) := by omega
          have hlu : u'.length + 1 + v.length = m := by rw [← hml, huv]; simp; omega
          have hIn : I < n := by omega
          have hJn : J < n := by omega
          have hwJ : IntKind.i64.wrap (J : Int) = (J : Int) := by rw [IntKind.wrap_i64]; omega
          have hIn' : (I : Int) < (n : Int) := by omega
          have hJn' : (J : Int) < (n : Int) := by omega
          have c1 : wr.cell? ⟨g, I, none⟩ = some (enc x) := (hE2.cast (ys := (p ++ u' ++ [y]) ++ x :: (v ++ R ++ q)) (by simp)).at (by simp; omega)
          have c0 : wr.cell? ⟨g, J, none⟩ = some (enc y) := (hE2.cast (ys := (p ++ u') ++ y :: (x :: (v ++ R ++ q))) (by simp)).at (by simp; omega)
          obtain ⟨z, hz⟩ : ∃ z, cf x y = z := ⟨_, rfl⟩
          go_wp2_with fail
          refine (wpIn_wide (n := 0)).1 ?_
          refine wpIn_region_R (l := 0) 17 (S := fun V => V.cell? ⟨g, I, none⟩ = some (enc x) ∧ V.cell? ⟨g, J, none⟩ = some (enc y)) (by kernel_rfl) ⟨c1, c0⟩ (fun hS0 => ?_)
          refine wpAnyR_take (i := 0) (oi := ⟨some 18, _, _, _, _, _⟩) (v := ?_) (by kernel_rfl) (by kernel_rfl) rfl (by kernel_rfl) (by kernel_rfl) (by kernel_rfl) (fun _ _ _ h => h) (Or.inl ⟨by rfl, ?_⟩) (by assumption) ?_
          rotate_left
          · intro w hSw; (try dsimp only at hSw); (try go_split_ands); go_simp; (try (with_reducible rfl))
          (try simp only [Act.put, List.setIfInBounds_toArray, List.set_cons_zero, List.set_cons_succ])
          refine wpAnyR_take (i := 1) (oi := ⟨some 19, _, _, _, _, _⟩) (v := ?_) (by kernel_rfl) (by kernel_rfl) rfl (by kernel_rfl) (by kernel_rfl) (by kernel_rfl) (fun _ _ _ h => h) (Or.inl ⟨by rfl, ?_⟩) (by assumption) ?_
          rotate_left
          · intro w hSw; (try dsimp only at hSw); (try go_split_ands); go_simp; (try (with_reducible rfl))
          (try simp only [Act.put, List.setIfInBounds_toArray, List.set_cons_zero, List.set_cons_succ])
          refine wpAnyR_take (i := 2) (oi := ⟨some 20, _, _, _, _, _⟩) (v := ?_) (by kernel_rfl) (by kernel_rfl) rfl (by kernel_rfl) (by kernel_rfl) (by kernel_rfl) (fun _ _ _ h => h) (Or.inl ⟨by rfl, ?_⟩) (by assumption) ?_
          rotate_left
          · intro w hSw; (try dsimp only at hSw); (try go_split_ands); go_simp; (try (with_reducible rfl))
          (try simp only [Act.put, List.setIfInBounds_toArray, List.set_cons_zero, List.set_cons_succ])
          refine wpAnyR_take (i := 3) (oi := ⟨some 21, _, _, _, _, _⟩) (v := ?_) (by kernel_rfl) (by kernel_rfl) rfl (by kernel_rfl) (by kernel_rfl) (by kernel_rfl) (fun _ _ _ h => h) (Or.inl ⟨by rfl, ?_⟩) (by assumption) ?_
          rotate_left
          · intro w hSw; (try dsimp only at hSw); (try go_split_ands); go_simp; (try (with_reducible rfl))
          (try simp only [Act.put, List.setIfInBounds_toArray, List.set_cons_zero, List.set_cons_succ])
          refine wpAnyR_take (i := 4) (oi := ⟨some 22, _, _, _, _, _⟩) (v := ?_) (by kernel_rfl) (by kernel_rfl) rfl (by kernel_rfl) (by kernel_rfl) (by kernel_rfl) (fun _ _ _ h => h) (Or.inl ⟨by rfl, ?_⟩) (by assumption) ?_
          rotate_left
          · intro w hSw; (try dsimp only at hSw); (try go_split_ands); go_simp; (try (with_reducible rfl))
          (try simp only [Act.put, List.setIfInBounds_toArray, List.set_cons_zero, List.set_cons_succ])
          refine wpAnyR_take (i := 5) (oi := ⟨some 23, _, _, _, _, _⟩) (v := ?_) (by kernel_rfl) (by kernel_rfl) rfl (by kernel_rfl) (by kernel_rfl) (by kernel_rfl) (fun _ _ _ h => h) (Or.inl ⟨by rfl, ?_⟩) (by assumption) ?_
          rotate_left
          · intro w hSw; (try dsimp only at hSw); (try go_split_ands); go_simp; (try (with_reducible rfl))
          (try simp only [Act.put, List.setIfInBounds_toArray, List.set_cons_zero, List.set_cons_succ])
          refine wpAnyR_take (i := 6) (oi := ⟨some 24, _, _, _, _, _⟩) (v := ?_) (by kernel_rfl) (by kernel_rfl) rfl (by kernel_rfl) (by kernel_rfl) (by kernel_rfl) (fun _ _ _ h => h) (Or.inl ⟨by rfl, ?_⟩) (by assumption) ?_
          rotate_left
          · intro w hSw; (try dsimp only at hSw); (try go_split_ands); go_simp; (try (with_reducible rfl))
          (try simp only [Act.put, List.setIfInBounds_toArray, List.set_cons_zero, List.set_cons_succ])
          refine wpAnyR_take (i := 7) (oi := ⟨some 25, _, _, _, _, _⟩) (v := ?_) (by kernel_rfl) (by kernel_rfl) rfl (by kernel_rfl) (by kernel_rfl) (by kernel_rfl) (fun _ _ _ h => h) (Or.inl ⟨by rfl, ?_⟩) (by assumption) ?_
          rotate_left
          · intro w hSw; (try dsimp only at hSw); (try go_split_ands); go_simp; (try (with_reducible rfl))
          (try simp only [Act.put, List.setIfInBounds_toArray, List.set_cons_zero, List.set_cons_succ])
          refine wpAnyR_take (i := 8) (oi := ⟨some 26, _, _, _, _, _⟩) (v := ?_) (by kernel_rfl) (by kernel_rfl) rfl (by kernel_rfl) (by kernel_rfl) (by kernel_rfl) (fun _ _ _ h => h) (Or.inl ⟨by rfl, ?_⟩) (by assumption) ?_
          rotate_left
          · intro w hSw; (try dsimp only at hSw); (try go_split_ands); go_simp; (try (with_reducible rfl))
          (try simp only [Act.put, List.setIfInBounds_toArray, List.set_cons_zero, List.set_cons_succ])
          refine wpAnyR_take (i := 9) (oi := ⟨some 27, _, _, _, _, _⟩) (v := ?_) (by kernel_rfl) (by kernel_rfl) rfl (by kernel_rfl) (by kernel_rfl) (by kernel_rfl) (fun _ _ _ h => h) (Or.inl ⟨by rfl, ?_⟩) (by assumption) ?_
          rotate_left
          · intro w hSw; (try dsimp only at hSw); (try go_split_ands); go_simp; (try (with_reducible rfl))
          (try simp only [Act.put, List.setIfInBounds_toArray, List.set_cons_zero, List.set_cons_succ])
          refine wpAnyR_take (i := 10) (oi := ⟨some 28, _, _, _, _, _⟩) (v := ?_) (by kernel_rfl) (by kernel_rfl) rfl (by kernel_rfl) (by kernel_rfl) (by kernel_rfl) (fun _ _ _ h => h) (Or.inl ⟨by rfl, ?_⟩) (by assumption) ?_
          rotate_left
          · intro w hSw; (try dsimp only at hSw); (try go_split_ands); go_simp; (try (with_reducible rfl))
          (try simp only [Act.put, List.setIfInBounds_toArray, List.set_cons_zero, List.set_cons_succ])
          refine wpAnyR_take (i := 11) (oi := ⟨some 29, _, _, _, _, _⟩) (v := ?_) (by kernel_rfl) (by kernel_rfl) rfl (by kernel_rfl) (by kernel_rfl) (by kernel_rfl) (fun _ _ _ h => h) (Or.inl ⟨by rfl, ?_⟩) (by assumption) ?_
          rotate_left
          · intro w hSw; (try dsimp only at hSw); (try go_split_ands); go_simp; (try (with_reducible rfl))
          (try simp only [Act.put, List.setIfInBounds_toArray, List.set_cons_zero, List.set_cons_succ])
          refine wpAnyR_take (i := 12) (oi := ⟨some 30, _, _, _, _, _⟩) (v := ?_) (by kernel_rfl) (by kernel_rfl) rfl (by kernel_rfl) (by kernel_rfl) (by kernel_rfl) (fun _ _ _ h => h) (Or.inl ⟨by rfl, ?_⟩) (by assumption) ?_
          rotate_left
          · intro w hSw; (try dsimp only at hSw); (try go_split_ands); go_simp; (try (with_reducible rfl))
          (try simp only [Act.put, List.setIfInBounds_toArray, List.set_cons_zero, List.set_cons_succ])
          refine wpAnyR_take (i := 13) (oi := ⟨some 31, _, _, _, _, _⟩) (v := ?_) (by kernel_rfl) (by kernel_rfl) rfl (by kernel_rfl) (by kernel_rfl) (by kernel_rfl) (fun _ _ _ h => h) (Or.inl ⟨by rfl, ?_⟩) (by assumption) ?_
          rotate_left
          · intro w hSw; (try dsimp only at hSw); (try go_split_ands); go_simp; (try (with_reducible rfl))
          (try simp only [Act.put, List.setIfInBounds_toArray, List.set_cons_zero, List.set_cons_succ])
          refine wpAnyR_one (i := 14) (o := ⟨some 32, _, _, _, _, _⟩) (by kernel_rfl) (by kernel_rfl) rfl (fun K hK => ?_)
          go_simp
          refine (hcmp x y wr.drew ((hk.trans hk2 (fun _ _ h => h.elim id id)).trans (Seq.Kpt.drew _ _) (fun _ _ h => h.elim id id))).mono ?_
          rintro e w5 ⟨rfl, hb5⟩
          rw [hz]
          have hb5' : Below wr.heap.size wr w5 := (below_drew (Below.refl _ wr)).trans hb5
          have hE5 := El.kept hE2 hb5'
          have hk5 := hk2.trans (Seq.Kpt.of_new (fun i => i = g) hb5') (fun _ _ h => h.elim id id)
          have c15 : w5.cell? ⟨g, I, none⟩ = some (enc x) := (hE5.cast (ys := (p ++ u' ++ [y]) ++ x :: (v ++ R ++ q)) (by simp)).at (by simp; omega)
          have c05 : w5.cell? ⟨g, J, none⟩ = some (enc y) := (hE5.cast (ys := (p ++ u') ++ y :: (x :: (v ++ R ++ q))) (by simp)).at (by simp; omega)
          have c55 := And.intro c15 c05
          (try dsimp only)
          refine hK.out _ _ (.inr c55) ?_
          clear hK K
          (try simp only [Act.put, List.setIfInBounds_toArray, List.set_cons_zero, List.set_cons_succ])
          by_cases hz0 : z < 0
          ·
            refine wpAnyR_take (i := 15) (oi := ⟨some 33, _, _, _, _, _⟩) (v := ?_) (by kernel_rfl) (by kernel_rfl) rfl (by kernel_rfl) (by kernel_rfl) (by kernel_rfl) (fun _ _ _ h => h) (Or.inl ⟨by rfl, ?_⟩) (by assumption) ?_
            rotate_left
            · intro w hSw; (try dsimp only at hSw); (try go_split_ands); go_simp; (try (with_reducible rfl))
            (try simp only [Act.put, List.setIfInBounds_toArray, List.set_cons_zero, List.set_cons_succ])
            refine wpAnyR_take (i := 16) (oi := ⟨some 34, _, _, _, _, _⟩) (v := ?_) (by kernel_rfl) (by kernel_rfl) rfl (by kernel_rfl) (by kernel_rfl) (by kernel_rfl) (fun _ _ _ h => h) (Or.inl ⟨by rfl, ?_⟩) (by assumption) ?_
            rotate_left
            · intro w hSw; (try dsimp only at hSw); (try go_split_ands); go_simp; (try (with_reducible rfl))
            (try simp only [Act.put, List.setIfInBounds_toArray, List.set_cons_zero, List.set_cons_succ])
            refine wpAnyR_done (by kernel_rfl) ?_ _
            go_wp2_with fail
            obtain ⟨Ax, nx, cx, hex⟩ := hform x
            obtain ⟨Ay, ny, cy, hey⟩ := hform y
            rw [hex, hey]
            have d1 : w5.drew.cell? ⟨g, I, none⟩ = some (.slice Ax nx cx) := by rw [← hex]; exact c15
            have d0 : w5.drew.cell? ⟨g, J, none⟩ = some (.slice Ay ny cy) := by rw [← hey]; exact c05
            have q1 : w5.drew.frozen? ⟨g, I, none⟩ = false := hE5.frozen I
            have q0 : w5.drew.frozen? ⟨g, J, none⟩ = false := hE5.frozen J
            have mixed : Tryd.prog.follows .mixedOrders = true := by kernel_rfl
            have hS1 : El enc rest g ((p ++ u' ++ [y]) ++ y :: (v ++ R ++ q)) (w5.setCell ⟨g, I, none⟩ (enc y)) := El.set (hE5.cast (ys := (p ++ u' ++ [y]) ++ x :: (v ++ R ++ q)) (by simp)) (by simp; omega)
            have hS2 : El enc rest g ((p ++ u') ++ x :: (y :: (v ++ R ++ q))) ((w5.setCell ⟨g, I, none⟩ (enc y)).setCell ⟨g, J, none⟩ (enc x)) := El.set (hS1.cast (ys := (p ++ u') ++ y :: (y :: (v ++ R ++ q))) (by simp)) (by simp; omega)
            have d2 : (w5.setCell ⟨g, I, none⟩ (enc y)).drew.cell? ⟨g, J, none⟩ = some (enc y) := (hS1.cast (ys := (p ++ u') ++ y :: (y :: (v ++ R ++ q))) (by simp)).at (by simp; omega)
            have q2 : (w5.setCell ⟨g, I, none⟩ (enc y)).drew.frozen? ⟨g, J, none⟩ = false := hS1.frozen J
            have hk6 : Seq.Kpt (fun i => i = g) W ((w5.setCell ⟨g, I, none⟩ (enc y)).setCell ⟨g, J, none⟩ (enc x)) := (hk5.trans (Seq.Kpt.setCell w5 ⟨g, I, none⟩ (enc y)) (fun _ _ h => h.elim id id)).trans (Seq.Kpt.setCell _ ⟨g, J, none⟩ (enc x)) (fun _ _ h => h.elim id id)
            rw [hey] at d2 q2
            have HS2 := Lib.hid (And.intro hS2 hk6)
            clear hS1 hS2 hk6
            have hJI : J ≠ I := by omega
            have hIJ : I ≠ J := by omega
            clear c15 c05 c55 c1 c0 hS0
            have HEX := Lib.hid hex
            have HEY := Lib.hid hey
            clear hex hey
            go_big_region_o
            go_wp2
            go_roundw
            case rel =>
              have h6 := HS2.out
              rw [HEX.out, HEY.out] at h6
              have hxy : Lt cf x y := Lt.of_neg (by rw [hz]; exact hz0)
              have hpw2 := hpw
              rw [huv] at hpw2
              refine ⟨u', y :: v, J, rfl, hJ, by rw [huv]; simp, ?_, El.cast h6.1 (by simp), h6.2.trans (Seq.Kpt.drew _ _) (fun _ _ h => h.elim id id)⟩
              intro t ht
              rcases List.mem_cons.1 ht with ht | ht
              · rw [ht]; exact hxy
              · exact hv t ht
            case measure => simp [intOf]; omega
          ·
            refine wpAnyR_take (i := 15) (oi := ⟨some 33, _, _, _, _, _⟩) (v := ?_) (by kernel_rfl) (by kernel_rfl) rfl (by kernel_rfl) (by kernel_rfl) (by kernel_rfl) (fun _ _ _ h => h) (Or.inl ⟨by rfl, ?_⟩) (by assumption) ?_
            rotate_left
            · intro w hSw; (try dsimp only at hSw); (try go_split_ands); go_simp; (try (with_reducible rfl))
            (try simp only [Act.put, List.setIfInBounds_toArray, List.set_cons_zero, List.set_cons_succ])
            refine wpAnyR_take (i := 16) (oi := ⟨some 34, _, _, _, _, _⟩) (v := ?_) (by kernel_rfl) (by kernel_rfl) rfl (by kernel_rfl) (by kernel_rfl) (by kernel_rfl) (fun _ _ _ h => h) (Or.inl ⟨by rfl, ?_⟩) (by assumption) ?_
            rotate_left
            · intro w hSw; (try dsimp only at hSw); (try go_split_ands); go_simp; (try (with_reducible rfl))
            (try simp only [Act.put, List.setIfInBounds_toArray, List.set_cons_zero, List.set_cons_succ])
            refine wpAnyR_done (by kernel_rfl) ?_ _
            go_wp2
            go_roundw
            case rel =>
              have hyx : Lt cf y x := Lt.of_not hcf (hxb y (by rw [huv]; simp)) (by rw [hz]; exact hz0)
              have hpu : (u' ++ [y]).Pairwise (Lt cf) := by rw [huv] at hpw; exact (List.pairwise_append.1 hpw).1
              obtain ⟨s2, he2, hp2, hw2⟩ := FIN.out (u' ++ [y]) v huv hv (all_ahead hcf hpu hyx)
              exact ⟨m + 1, im + 1, by go_num, by omega, by omega, by omega, ⟨s2, hp2, hw2, by rw [hR, he2]; exact El.cast hE5 (by simp)⟩, hk5⟩
            case measure => simp [intOf]; omega
    · have hlz : ¬ (im : Int) < (b : Int) := by omega
      rw [List.drop_of_length_le (by omega), List.append_nil] at hE
      rw [List.take_of_length_le (by omega)] at hpm
      go_wp2
      go_end0
      exact ⟨rfl, s1, hpm, hpw, hkr, hE.cast (by simp)⟩

/-- An exchange, the lower place written first. -/
theorem El.swapLo {enc : Nat → Value} {rest : List Value} {g : Nat} {A B C : List Nat} {x y : Nat} {W : World} (h : El enc rest g (A ++ x :: (B ++ y :: C)) W) {I J : Nat} (hI : A.length = I) (hJ : I + 1 + B.length = J) :
    W.cell? ⟨g, I, none⟩ = some (enc x) ∧ W.cell? ⟨g, J, none⟩ = some (enc y) ∧ (W.setCell ⟨g, I, none⟩ (enc y)).cell? ⟨g, J, none⟩ = some (enc y) ∧ (W.setCell ⟨g, I, none⟩ (enc y)).frozen? ⟨g, J, none⟩ = false ∧
      El enc rest g (A ++ y :: (B ++ x :: C)) ((W.setCell ⟨g, I, none⟩ (enc y)).setCell ⟨g, J, none⟩ (enc x)) := by
  have h1 : El enc rest g (A ++ y :: (B ++ y :: C)) (W.setCell ⟨g, I, none⟩ (enc y)) := El.set h hI
  have h2 := h1.cast (ys := (A ++ y :: B) ++ y :: C) (by simp)
  have hl : (A ++ y :: B).length = J := by simp; omega
  have hl' : (A ++ x :: B).length = J := by simp; omega
  exact ⟨h.at hI, (h.cast (ys := (A ++ x :: B) ++ y :: C) (by simp)).at hl', h2.at hl, h2.frozen J, (El.set h2 hl).cast (by simp)⟩
/-- .. the upper one first. -/
theorem El.swapHi {enc : Nat → Value} {rest : List Value} {g : Nat} {A B C : List Nat} {x y : Nat} {W : World} (h : El enc rest g (A ++ x :: (B ++ y :: C)) W) {I J : Nat} (hI : A.length = I) (hJ : I + 1 + B.length = J) :
    W.cell? ⟨g, I, none⟩ = some (enc x) ∧ W.cell? ⟨g, J, none⟩ = some (enc y) ∧ (W.setCell ⟨g, J, none⟩ (enc x)).cell? ⟨g, I, none⟩ = some (enc x) ∧ (W.setCell ⟨g, J, none⟩ (enc x)).frozen? ⟨g, I, none⟩ = false ∧
      El enc rest g (A ++ y :: (B ++ x :: C)) ((W.setCell ⟨g, J, none⟩ (enc x)).setCell ⟨g, I, none⟩ (enc y)) := by
  have hl' : (A ++ x :: B).length = J := by simp; omega
  have h1 : El enc rest g ((A ++ x :: B) ++ x :: C) (W.setCell ⟨g, J, none⟩ (enc x)) := El.set (h.cast (ys := (A ++ x :: B) ++ y :: C) (by simp)) hl'
  have h2 := h1.cast (ys := A ++ x :: (B ++ x :: C)) (by simp)
  exact ⟨h.at hI, (h.cast (ys := (A ++ x :: B) ++ y :: C) (by simp)).at hl', h2.at hI, h2.frozen I, El.set h2 hI⟩

set_option maxRecDepth 100000 in
set_option maxHeartbeats 2000000 in
theorem swr_any (n c a b k g : Nat) (cv : Value) (enc : Nat → Value) (rest : List Value) (p A m B q : List Nat) (W : World)
    (hx : El enc rest g (p ++ A ++ m ++ B ++ q) W) (hp : p.length = a) (hA : A.length = k) (hb : a + k + m.length = b) (hB : B.length = k) (hn : (p ++ A ++ m ++ B ++ q).length = n) (hn2 : n ≤ 5864062014805)
    (hform : ∀ x, ∃ A m k, enc x = .slice A m k) (hcv : ∃ gc lb, cv = .func (.func gc) #[] lb) :
    Calls Tryd.prog 106 #[.slice (some ⟨g, 0, none⟩) n c, .int .i64 a, .int .i64 b, .int .i64 k, cv] W fun e W' => e = .returned (.tuple #[]) ∧
      Seq.Kpt (fun i => i = g) W W' ∧ El enc rest g (p ++ B ++ m ++ A ++ q) W' := by
  have hlen : b + k + q.length = n := by rw [← hn]; simp; omega
  clear hn
  obtain ⟨gc, lb, rfl⟩ := hcv
  have mixed : Tryd.prog.follows .mixedOrders = true := by kernel_rfl
  go_enter Tryd.func106, Tryd.ntmps106
  go_wp2_with fail
  go_loopw [10] (fun iv wr => ∃ (i : Nat) (A1 A2 B1 B2 : List Nat), iv = .int .i64 (i : Int) ∧ A = A1 ++ A2 ∧ B = B1 ++ B2 ∧ A1.length = i ∧ B1.length = i ∧ El enc rest g (p ++ (B1 ++ A2) ++ m ++ (A1 ++ B2) ++ q) wr ∧ Seq.Kpt (fun i => i = g) W wr) (fun iv _ => k - (intOf iv).toNat)
  case atStart => exact ⟨0, [], A, [], B, rfl, rfl, rfl, rfl, rfl, hx.cast (by simp), Seq.Kpt.refl _ _⟩
  case round =>
    obtain ⟨i, A1, A2, B1, B2, rfl, hA12, hB12, hA1, hB1, hE, hk⟩ := hrel
    have lA : A1.length + A2.length = k := by rw [← hA, hA12]; simp
    have lB : B1.length + B2.length = k := by rw [← hB, hB12]; simp
    by_cases hlt : i < k
    · obtain ⟨x, A3, rfl⟩ : ∃ x A3, A2 = x :: A3 := by
        cases A2 with
        | nil => simp at lA; omega
        | cons x A3 => exact ⟨x, A3, rfl⟩
      obtain ⟨y, B3, rfl⟩ : ∃ y B3, B2 = y :: B3 := by
        cases B2 with
        | nil => simp at lB; omega
        | cons y B3 => exact ⟨y, B3, rfl⟩
      have hlz : (i : Int) < (k : Int) := by omega
      obtain ⟨I, hI⟩ : ∃ I : Nat, a + i = I := ⟨_, rfl⟩
      obtain ⟨J, hJ⟩ : ∃ J : Nat, b + i = J := ⟨_, rfl⟩
      have lA3 : A1.length + 1 + A3.length = k := by simp at lA; omega
      have hsw := El.swapLo (x := x) (y := y) (A := p ++ B1) (B := A3 ++ m ++ A1) (C := B3 ++ q) (I := I) (J := J) (hE.cast (by simp)) (by simp; omega) (by simp; omega)
      obtain ⟨Ax, nx, cx, hex⟩ := hform x
      obtain ⟨Ay, ny, cy, hey⟩ := hform y
      rw [hex, hey] at hsw
      obtain ⟨d1, d0, d2, q2, hE2⟩ := hsw
      have hk2 : Seq.Kpt (fun i => i = g) W ((wr.setCell ⟨g, I, none⟩ (.slice Ay ny cy)).setCell ⟨g, J, none⟩ (.slice Ax nx cx)) := (hk.trans (Seq.Kpt.setCell wr ⟨g, I, none⟩ _) (fun _ _ h => h.elim id id)).trans (Seq.Kpt.setCell _ ⟨g, J, none⟩ _) (fun _ _ h => h.elim id id)
      have e1 : wr.drew.cell? ⟨g, I, none⟩ = some (.slice Ax nx cx) := d1
      have e0 : wr.drew.cell? ⟨g, J, none⟩ = some (.slice Ay ny cy) := d0
      have e2 : (wr.setCell ⟨g, I, none⟩ (.slice Ay ny cy)).drew.cell? ⟨g, J, none⟩ = some (.slice Ay ny cy) := d2
      have e3 : (wr.setCell ⟨g, I, none⟩ (.slice Ay ny cy)).drew.frozen? ⟨g, J, none⟩ = false := q2
      have e4 : wr.drew.frozen? ⟨g, I, none⟩ = false := hE.frozen I
      have e5 : wr.drew.frozen? ⟨g, J, none⟩ = false := hE.frozen J
      have n1 : (I : Int) < (n : Int) := by omega
      have n2 : (J : Int) < (n : Int) := by omega
      have n3 : I < n := by omega
      have n4 : J < n := by omega
      have n5 : J ≠ I := by omega
      have n6 : I ≠ J := by omega
      have w1 : IntKind.i64.wrap (I : Int) = (I : Int) := by rw [IntKind.wrap_i64]; omega
      have w2 : IntKind.i64.wrap (J : Int) = (J : Int) := by rw [IntKind.wrap_i64]; omega
      have w3 : (a : Int) + (i : Int) = (I : Int) := by omega
      have w4 : (b : Int) + (i : Int) = (J : Int) := by omega
      have HE2 := Lib.hid (And.intro hE2 hk2)
      clear hE2 hk2 d1 d0 d2 q2 hex hey
      go_wp2_with fail
      go_big_region_o
      go_wp2
      go_roundw
      case rel => exact ⟨i + 1, A1 ++ [x], A3, B1 ++ [y], B3, by go_num, by rw [hA12]; simp, by rw [hB12]; simp, by simp; omega, by simp; omega, El.cast HE2.out.1 (by simp), HE2.out.2.trans (Seq.Kpt.drew _ _) (fun _ _ h => h.elim id id)⟩
      case measure => simp [intOf]; omega
    · have hlz : ¬ (i : Int) < (k : Int) := by omega
      obtain rfl : A2 = [] := List.eq_nil_of_length_eq_zero (by omega)
      obtain rfl : B2 = [] := List.eq_nil_of_length_eq_zero (by omega)
      rw [List.append_nil] at hA12 hB12
      subst hA12 hB12
      go_wp2
      go_end0
      exact ⟨rfl, hk, hE.cast (by simp)⟩
end Go.Proofs.YtihdlalbgdighaaDoor.QV
/- slices.SortStableFunc over rows, walked: rotate. -/
namespace Go.Proofs.YtihdlalbgdighaaDoor.QV
open Go.RowKit Go.Proofs.YtihdlalbgdighaaDoorW.PrintWords Go.Proofs.YtihdlalbgdighaaDoor.SeqW Go.Shelf Go.Proofs.YtihdlalbgdighaaDoor.Op Go.Proofs.YtihdlalbgdighaaDoor.Stab
set_option linter.unusedVariables false
set_option linter.unusedSimpArgs false

set_option maxRecDepth 100000 in
set_option maxHeartbeats 2000000 in
theorem rot_any (n c a m b g : Nat) (cv : Value) (enc : Nat → Value) (rest : List Value) (p U V q : List Nat) (W : World)
    (hx : El enc rest g (p ++ U ++ V ++ q) W) (hp : p.length = a) (hU : a + U.length = m) (hV : m + V.length = b) (hU0 : 0 < U.length) (hV0 : 0 < V.length) (hn : (p ++ U ++ V ++ q).length = n) (hn2 : n ≤ 5864062014805)
    (hform : ∀ x, ∃ A m k, enc x = .slice A m k) (hcv : ∃ gc lb, cv = .func (.func gc) #[] lb) :
    Calls Tryd.prog 105 #[.slice (some ⟨g, 0, none⟩) n c, .int .i64 a, .int .i64 m, .int .i64 b, cv] W fun e W' => e = .returned (.tuple #[]) ∧
      Seq.Kpt (fun i => i = g) W W' ∧ El enc rest g (p ++ V ++ U ++ q) W' := by
  have hlen : b + q.length = n := by rw [← hn]; simp; omega
  clear hn
  have HCV := Lib.hid hcv
  obtain ⟨gc, lb, rfl⟩ := hcv
  have hi0 : (m : Int) - (a : Int) = (U.length : Int) := by omega
  have hj0 : (b : Int) - (m : Int) = (V.length : Int) := by omega
  have wi0 : IntKind.i64.wrap (U.length : Int) = (U.length : Int) := by rw [IntKind.wrap_i64]; omega
  have wj0 : IntKind.i64.wrap (V.length : Int) = (V.length : Int) := by rw [IntKind.wrap_i64]; omega
  go_enter Tryd.func105, Tryd.ntmps105
  go_wp2_with fail
  go_loopw [10, 11] (fun iv jv wr => ∃ (i j : Nat) (P U' V' Q : List Nat), iv = .int .i64 (i : Int) ∧ jv = .int .i64 (j : Int) ∧ U'.length = i ∧ V'.length = j ∧ 0 < i ∧ 0 < j ∧ P.length + i = m ∧ m + j + Q.length = n ∧ El enc rest g (P ++ U' ++ V' ++ Q) wr ∧ P ++ V' ++ U' ++ Q = p ++ V ++ U ++ q ∧ Seq.Kpt (fun i => i = g) W wr) (fun iv jv _ => (intOf iv).toNat + (intOf jv).toNat)
  case atStart => exact ⟨U.length, V.length, p, U, V, q, rfl, rfl, rfl, rfl, hU0, hV0, by omega, by omega, hx, rfl, Seq.Kpt.refl _ _⟩
  case round =>
    obtain ⟨i, j, P, U', V', Q, rfl, rfl, hUl, hVl, hi, hj, hPm, hmn, hE, hT, hk⟩ := hrel
    clear hi0 hj0 wi0 wj0
    obtain ⟨s0, hs0⟩ : ∃ s0 : Nat, m - i = s0 := ⟨_, rfl⟩
    have w1 : (m : Int) - (i : Int) = (s0 : Int) := by omega
    have w2 : IntKind.i64.wrap (s0 : Int) = (s0 : Int) := by rw [IntKind.wrap_i64]; omega
    by_cases hij : i = j
    · subst hij
      have hne : ((i : Int) != (i : Int)) = false := by simp
      go_wp2_with fail
      refine (swr_any n c s0 m i g _ enc rest P U' [] V' Q wr (hE.cast (by simp)) (by omega) hUl (by simp; omega) hVl (by simp; omega) hn2 hform ⟨gc, lb, rfl⟩).mono ?_
      rintro e w2 ⟨rfl, hk2, hE2⟩
      go_wp2
      go_end0
      exact ⟨rfl, hk.trans hk2 (fun _ _ h => h.elim id id), hE2.cast (by simpa using hT)⟩
    · have hne : (i : Int) ≠ (j : Int) := by omega
      by_cases hgt : i > j
      · have hgz : (j : Int) < (i : Int) := by omega
        obtain ⟨d, hd⟩ : ∃ d : Nat, i - j = d := ⟨_, rfl⟩
        have w3 : (i : Int) - (j : Int) = (d : Int) := by omega
        have w4 : IntKind.i64.wrap (d : Int) = (d : Int) := by rw [IntKind.wrap_i64]; omega
        obtain ⟨A, R, hAR, hAl⟩ : ∃ A R, U' = A ++ R ∧ A.length = j := ⟨U'.take j, U'.drop j, (List.take_append_drop _ _).symm, by rw [List.length_take]; omega⟩
        have hRl : R.length = d := by rw [hAR] at hUl; simp at hUl; omega
        subst hAR
        go_wp2_with fail
        refine (swr_any n c s0 m j g _ enc rest P A R V' Q wr (hE.cast (by simp)) (by omega) hAl (by omega) hVl (by simp; omega) hn2 hform ⟨gc, lb, rfl⟩).mono ?_
        rintro e w2 ⟨rfl, hk2, hE2⟩
        go_wp2
        go_roundw
        case rel => exact ⟨d, j, P ++ V', R, A, Q, rfl, rfl, hRl, hAl, by omega, hj, by simp; omega, by omega, hE2.cast (by simp), by rw [← hT]; simp, hk.trans hk2 (fun _ _ h => h.elim id id)⟩
        case measure => simp [intOf]; omega
      · have hgz : ¬ (j : Int) < (i : Int) := by omega
        obtain ⟨d, hd⟩ : ∃ d : Nat, j - i = d := ⟨_, rfl⟩
        have w3 : (j : Int) - (i : Int) = (d : Int) := by omega
        have w4 : IntKind.i64.wrap (d : Int) = (d : Int) := by rw [IntKind.wrap_i64]; omega
        obtain ⟨t0, ht0⟩ : ∃ t0 : Nat, m + j = t0 := ⟨_, rfl⟩
        have w5 : (m : Int) + (j : Int) = (t0 : Int) := by omega
        have w6 : IntKind.i64.wrap (t0 : Int) = (t0 : Int) := by rw [IntKind.wrap_i64]; omega
        obtain ⟨t1, ht1⟩ : ∃ t1 : Nat, t0 - i = t1 := ⟨_, rfl⟩
        have w7 : (t0 : Int) - (i : Int) = (t1 : Int) := by omega
        have w8 : IntKind.i64.wrap (t1 : Int) = (t1 : Int) := by rw [IntKind.wrap_i64]; omega
        obtain ⟨R, B, hRB, hRl⟩ : ∃ R B, V' = R ++ B ∧ R.length = d := ⟨V'.take d, V'.drop d, (List.take_append_drop _ _).symm, by rw [List.length_take]; omega⟩
        have hBl : B.length = i := by rw [hRB] at hVl; simp at hVl; omega
        subst hRB
        go_wp2_with fail
        refine (swr_any n c s0 t1 i g _ enc rest P U' R B Q wr (hE.cast (by simp)) (by omega) hUl (by omega) hBl (by simp; omega) hn2 hform ⟨gc, lb, rfl⟩).mono ?_
        rintro e w2 ⟨rfl, hk2, hE2⟩
        go_wp2
        go_roundw
        case rel => exact ⟨i, d, P, B, R, U' ++ Q, rfl, rfl, hBl, hRl, hi, by omega, hPm, by simp; omega, hE2.cast (by simp), by rw [← hT]; simp, hk.trans hk2 (fun _ _ h => h.elim id id)⟩
        case measure => simp [intOf]; omega
end Go.Proofs.YtihdlalbgdighaaDoor.QV
/- slices.SortStableFunc over rows, walked: symMerge. -/
namespace Go.Proofs.YtihdlalbgdighaaDoor.QV
open Go.RowKit Go.Proofs.YtihdlalbgdighaaDoorW.PrintWords Go.Proofs.YtihdlalbgdighaaDoor.SeqW Go.Shelf Go.Proofs.YtihdlalbgdighaaDoor.Op Go.Proofs.YtihdlalbgdighaaDoor.Stab
set_option linter.unusedVariables false
set_option linter.unusedSimpArgs false

theorem wrapN {k : Nat} (h : k ≤ 9223372036854775807) : IntKind.i64.wrap (k : Int) = (k : Int) := by rw [IntKind.wrap_i64]; omega
/-- A list at one of its places. -/
theorem at_mid {s : List Nat} {k : Nat} (h : k < s.length) : ∃ x, s = s.take k ++ x :: s.drop (k + 1) ∧ s.drop k = x :: s.drop (k + 1) ∧ s.take (k + 1) = s.take k ++ [x] := by
  obtain ⟨x, h1, h2⟩ := drop_cons h
  exact ⟨x, by rw [← h1, List.take_append_drop], h1, h2⟩
theorem pw_take {s : List Nat} {P : Nat → Nat → Prop} (h : s.Pairwise P) (k : Nat) : (s.take k).Pairwise P := h.sublist (List.take_sublist _ _)
theorem pw_drop {s : List Nat} {P : Nat → Nat → Prop} (h : s.Pairwise P) (k : Nat) : (s.drop k).Pairwise P := h.sublist (List.drop_sublist _ _)
theorem pw_cut {s : List Nat} {P : Nat → Nat → Prop} (h : s.Pairwise P) (k : Nat) : ∀ x ∈ s.take k, ∀ y ∈ s.drop k, P x y := by
  have : (s.take k ++ s.drop k).Pairwise P := by rw [List.take_append_drop]; exact h
  exact (List.pairwise_append.1 this).2.2
set_option maxRecDepth 100000 in
set_option maxHeartbeats 4000000 in
theorem sym_one (g n c : Nat) (cf : Nat → Nat → Int) (gc : Nat) (lb : Array Value) (hcf : CmpOk cf) (enc : Nat → Value) (rest : List Value) (w0 : World) (hn2 : n ≤ 5864062014805)
    (hcmp : CmpAt cf enc gc lb g w0) (eg : ∀ args w, (callFunc gc args).run Tryd.prog w = .ok (.enter gc args) w) (hform : ∀ x, ∃ A m k, enc x = .slice A m k)
    (a m b : Nat) (p R q : List Nat) (x : Nat) (W : World) (hx : El enc rest g (p ++ [x] ++ R ++ q) W) (hp : p.length = a) (hm : a + 1 = m) (hR : m + R.length = b) (hq : b + q.length = n)
    (hRs : R.Pairwise (Lt cf)) (hLR : ∀ y ∈ R, x < y) (hk : Seq.Kpt (fun i => i = g) w0 W) :
    Calls Tryd.prog 101 #[.slice (some ⟨g, 0, none⟩) n c, .int .i64 a, .int .i64 m, .int .i64 b, .func (.func gc) #[] lb] W fun e W' => e = .returned (.tuple #[]) ∧
        ∃ S, S.Perm ([x] ++ R) ∧ S.Pairwise (Lt cf) ∧ Seq.Kpt (fun i => i = g) W W' ∧ El enc rest g (p ++ S ++ q) W' := by
  have mixed : Tryd.prog.follows .mixedOrders = true := by kernel_rfl
  have e1 : (m : Int) - (a : Int) = 1 := by omega
  have e2 : IntKind.i64.wrap 1 = 1 := by rfl
  have an : a < n := by omega
  have anz : (a : Int) < (n : Int) := by omega
  have hE := hx.cast (ys := p ++ x :: (R ++ q)) (by simp)
  go_enter Tryd.func101, Tryd.ntmps101
  go_wp2_with fail
  go_loopw [10, 11] (fun iv jv wr => ∃ (i j : Nat), iv = .int .i64 (i : Int) ∧ jv = .int .i64 (j : Int) ∧ m ≤ i ∧ i ≤ j ∧ j ≤ b ∧ (∀ y ∈ R.take (i - m), Lt cf y x) ∧ (∀ y ∈ R.drop (j - m), Lt cf x y) ∧ El enc rest g (p ++ x :: (R ++ q)) wr ∧ Seq.Kpt (fun i => i = g) W wr) (fun iv jv _ => (intOf jv).toNat - (intOf iv).toNat)
  case atStart => exact ⟨m, b, rfl, rfl, Nat.le_refl _, by omega, Nat.le_refl _, by simp, by rw [List.drop_of_length_le (by omega)]; simp, hE, Seq.Kpt.refl _ _⟩
  case round =>
    obtain ⟨i, j, rfl, rfl, hmi, hij, hjb, hF1, hF2, hEr, hkr⟩ := hrel
    by_cases hlt : i < j
    · have hlz : (i : Int) < (j : Int) := by omega
      obtain ⟨s, hs⟩ : ∃ s : Nat, i + j = s := ⟨_, rfl⟩
      obtain ⟨h, hh⟩ : ∃ h : Nat, s / 2 = h := ⟨_, rfl⟩
      have w1 : (i : Int) + (j : Int) = (s : Int) := by omega
      have w2 : IntKind.i64.wrap (s : Int) = (s : Int) := wrapN (by omega)
      have w3 : (s : Int) / 2 = (h : Int) := by omega
      have w4 : (h : Int) < (n : Int) := by omega
      have w4' : h < n := by omega
      obtain ⟨e, he0, he1, he2⟩ := at_mid (s := R) (k := h - m) (by omega)
      obtain ⟨T, hT⟩ : ∃ T, R.take (h - m) = T := ⟨_, rfl⟩
      obtain ⟨D, hD⟩ : ∃ D, R.drop (h - m + 1) = D := ⟨_, rfl⟩
      rw [hT, hD] at he0
      have hTl : T.length = h - m := by rw [← hT, List.length_take]; omega
      have hEe := hEr.cast (ys := p ++ x :: (T ++ e :: D ++ q)) (by rw [← he0])
      have HE0 := Lib.hid (And.intro he0 (And.intro he1 he2))
      have HTD := Lib.hid (And.intro hT hD)
      clear he0 he1 he2 hT hD
      have c1 : wr.cell? ⟨g, h, none⟩ = some (enc e) := (hEe.cast (ys := (p ++ x :: T) ++ e :: (D ++ q)) (by simp)).at (by first | omega | (simp; omega))
      have c0 : wr.cell? ⟨g, a, none⟩ = some (enc x) := (hEe.cast (ys := p ++ x :: (T ++ e :: (D ++ q))) (by simp)).at (by first | omega | (simp; omega))
      obtain ⟨z, hz⟩ : ∃ z, cf e x = z := ⟨_, rfl⟩
      go_wp2_with fail
      refine (wpIn_wide (n := 0)).1 ?_
      refine wpIn_region_R (l := 0) 11 (S := fun V => V.cell? ⟨g, h, none⟩ = some (enc e) ∧ V.cell? ⟨g, a, none⟩ = some (enc x)) (by kernel_rfl) ⟨c1, c0⟩ (fun hS0 => ?_)
      refine wpAnyR_take (i := 0) (oi := ⟨some 40, _, _, _, _, _⟩) (v := ?_) (by kernel_rfl) (by kernel_rfl) rfl (by kernel_rfl) (by kernel_rfl) (by kernel_rfl) (fun _ _ _ h => h) (Or.inl ⟨by rfl, ?_⟩) (by assumption) ?_
      rotate_left
      · intro w hSw; (try dsimp only at hSw); (try go_split_ands); go_simp; (try (with_reducible rfl))
      (try simp only [Act.put, List.setIfInBounds_toArray, List.set_cons_zero, List.set_cons_succ])
      refine wpAnyR_take (i := 1) (oi := ⟨some 41, _, _, _, _, _⟩) (v := ?_) (by kernel_rfl) (by kernel_rfl) rfl (by kernel_rfl) (by kernel_rfl) (by kernel_rfl) (fun _ _ _ h => h) (Or.inl ⟨by rfl, ?_⟩) (by assumption) ?_
      rotate_left
      · intro w hSw; (try dsimp only at hSw); (try go_split_ands); go_simp; (try (with_reducible rfl))
      (try simp only [Act.put, List.setIfInBounds_toArray, List.set_cons_zero, List.set_cons_succ])
      refine wpAnyR_take (i := 2) (oi := ⟨some 42, _, _, _, _, _⟩) (v := ?_) (by kernel_rfl) (by kernel_rfl) rfl (by kernel_rfl) (by kernel_rfl) (by kernel_rfl) (fun _ _ _ h => h) (Or.inl ⟨by rfl, ?_⟩) (by assumption) ?_
      rotate_left
      · intro w hSw; (try dsimp only at hSw); (try go_split_ands); go_simp; (try (with_reducible rfl))
      (try simp only [Act.put, List.setIfInBounds_toArray, List.set_cons_zero, List.set_cons_succ])
      refine wpAnyR_take (i := 3) (oi := ⟨some 43, _, _, _, _, _⟩) (v := ?_) (by kernel_rfl) (by kernel_rfl) rfl (by kernel_rfl) (by kernel_rfl) (by kernel_rfl) (fun _ _ _ h => h) (Or.inl ⟨by rfl, ?_⟩) (by assumption) ?_
      rotate_left
      · intro w hSw; (try dsimp only at hSw); (try go_split_ands); go_simp; (try (with_reducible rfl))
      (try simp only [Act.put, List.setIfInBounds_toArray, List.set_cons_zero, List.set_cons_succ])
      refine wpAnyR_take (i := 4) (oi := ⟨some 44, _, _, _, _, _⟩) (v := ?_) (by kernel_rfl) (by kernel_rfl) rfl (by kernel_rfl) (by kernel_rfl) (by kernel_rfl) (fun _ _ _ h => h) (Or.inl ⟨by rfl, ?_⟩) (by assumption) ?_
      rotate_left
      · intro w hSw; (try dsimp only at hSw); (try go_split_ands); go_simp; (try (with_reducible rfl))
      (try simp only [Act.put, List.setIfInBounds_toArray, List.set_cons_zero, List.set_cons_succ])
      refine wpAnyR_take (i := 5) (oi := ⟨some 45, _, _, _, _, _⟩) (v := ?_) (by kernel_rfl) (by kernel_rfl) rfl (by kernel_rfl) (by kernel_rfl) (by kernel_rfl) (fun _ _ _ h => h) (Or.inl ⟨by rfl, ?_⟩) (by assumption) ?_
      rotate_left
      · intro w hSw; (try dsimp only at hSw); (try go_split_ands); go_simp; (try (with_reducible rfl))
      (try simp only [Act.put, List.setIfInBounds_toArray, List.set_cons_zero, List.set_cons_succ])
      refine wpAnyR_take (i := 6) (oi := ⟨some 46, _, _, _, _, _⟩) (v := ?_) (by kernel_rfl) (by kernel_rfl) rfl (by kernel_rfl) (by kernel_rfl) (by kernel_rfl) (fun _ _ _ h => h) (Or.inl ⟨by rfl, ?_⟩) (by assumption) ?_
      rotate_left
      · intro w hSw; (try dsimp only at hSw); (try go_split_ands); go_simp; (try (with_reducible rfl))
      (try simp only [Act.put, List.setIfInBounds_toArray, List.set_cons_zero, List.set_cons_succ])
      refine wpAnyR_take (i := 7) (oi := ⟨some 47, _, _, _, _, _⟩) (v := ?_) (by kernel_rfl) (by kernel_rfl) rfl (by kernel_rfl) (by kernel_rfl) (by kernel_rfl) (fun _ _ _ h => h) (Or.inl ⟨by rfl, ?_⟩) (by assumption) ?_
      rotate_left
      · intro w hSw; (try dsimp only at hSw); (try go_split_ands); go_simp; (try (with_reducible rfl))
      (try simp only [Act.put, List.setIfInBounds_toArray, List.set_cons_zero, List.set_cons_succ])
      refine wpAnyR_take (i := 8) (oi := ⟨some 48, _, _, _, _, _⟩) (v := ?_) (by kernel_rfl) (by kernel_rfl) rfl (by kernel_rfl) (by kernel_rfl) (by kernel_rfl) (fun _ _ _ h => h) (Or.inl ⟨by rfl, ?_⟩) (by assumption) ?_
      rotate_left
      · intro w hSw; (try dsimp only at hSw); (try go_split_ands); go_simp; (try (with_reducible rfl))
      (try simp only [Act.put, List.setIfInBounds_toArray, List.set_cons_zero, List.set_cons_succ])
      refine wpAnyR_one (i := 9) (o := ⟨some 49, _, _, _, _, _⟩) (by kernel_rfl) (by kernel_rfl) rfl (fun K hK => ?_)
      go_simp
      refine (hcmp e x wr.drew ((hk.trans hkr (fun _ _ h => h.elim id id)).trans (Seq.Kpt.drew _ _) (fun _ _ h => h.elim id id))).mono ?_
      rintro e w5 ⟨rfl, hb5⟩
      rw [hz]
      have hb5' : Below wr.heap.size wr w5 := (below_drew (Below.refl _ wr)).trans hb5
      have hE5 := El.kept hEe hb5'
      have hk5 := hkr.trans (Seq.Kpt.of_new (fun i => i = g) hb5') (fun _ _ h => h.elim id id)
      have c15 : w5.cell? ⟨g, h, none⟩ = some (enc e) := (hE5.cast (ys := (p ++ x :: T) ++ e :: (D ++ q)) (by simp)).at (by first | omega | (simp; omega))
      have c05 : w5.cell? ⟨g, a, none⟩ = some (enc x) := (hE5.cast (ys := p ++ x :: (T ++ e :: (D ++ q))) (by simp)).at (by first | omega | (simp; omega))
      have c55 := And.intro c15 c05
      (try dsimp only)
      refine hK.out _ _ (.inr c55) ?_
      clear hK K
      (try simp only [Act.put, List.setIfInBounds_toArray, List.set_cons_zero, List.set_cons_succ])
      by_cases hz0 : z < 0
      ·
        refine wpAnyR_take (i := 10) (oi := ⟨some 50, _, _, _, _, _⟩) (v := ?_) (by kernel_rfl) (by kernel_rfl) rfl (by kernel_rfl) (by kernel_rfl) (by kernel_rfl) (fun _ _ _ h => h) (Or.inl ⟨by rfl, ?_⟩) (by assumption) ?_
        rotate_left
        · intro w hSw; (try dsimp only at hSw); (try go_split_ands); go_simp; (try (with_reducible rfl))
        (try simp only [Act.put, List.setIfInBounds_toArray, List.set_cons_zero, List.set_cons_succ])
        refine wpAnyR_done (by kernel_rfl) ?_ _
        go_wp2
        go_roundw
        case rel =>
          refine ⟨h + 1, j, by go_num, rfl, by omega, by omega, hjb, ?_, hF2, El.cast hE5 (by rw [HE0.out.1]), hk5⟩
          rw [show h + 1 - m = h - m + 1 by omega, HE0.out.2.2]
          refine all_ahead hcf ?_ (Lt.of_neg (by rw [hz]; exact hz0))
          rw [← HE0.out.2.2]
          exact pw_take hRs _
        case measure => simp [intOf]; omega
      ·
        refine wpAnyR_take (i := 10) (oi := ⟨some 50, _, _, _, _, _⟩) (v := ?_) (by kernel_rfl) (by kernel_rfl) rfl (by kernel_rfl) (by kernel_rfl) (by kernel_rfl) (fun _ _ _ h => h) (Or.inl ⟨by rfl, ?_⟩) (by assumption) ?_
        rotate_left
        · intro w hSw; (try dsimp only at hSw); (try go_split_ands); go_simp; (try (with_reducible rfl))
        (try simp only [Act.put, List.setIfInBounds_toArray, List.set_cons_zero, List.set_cons_succ])
        refine wpAnyR_done (by kernel_rfl) ?_ _
        go_wp2
        go_roundw
        case rel =>
          refine ⟨i, h, rfl, by go_num, hmi, by omega, by omega, hF1, ?_, El.cast hE5 (by rw [HE0.out.1]), hk5⟩
          rw [HE0.out.2.1]
          refine all_behind hcf ?_ (Lt.of_not hcf (hLR e (by rw [HE0.out.1]; simp)) (by rw [hz]; exact hz0))
          rw [← HE0.out.2.1]
          exact pw_drop hRs _
        case measure => simp [intOf]; omega
    · obtain rfl : i = j := by omega
      have hlz : ¬ (i : Int) < (i : Int) := by omega
      clear hlt
      obtain ⟨i1, hi1⟩ : ∃ i1 : Nat, i - 1 = i1 := ⟨_, rfl⟩
      have w1 : (i : Int) - 1 = (i1 : Int) := by omega
      have w2 : IntKind.i64.wrap (i1 : Int) = (i1 : Int) := wrapN (by omega)
      obtain ⟨R1, hR1⟩ : ∃ R1, R.take (i - m) = R1 := ⟨_, rfl⟩
      obtain ⟨R2, hR2⟩ : ∃ R2, R.drop (i - m) = R2 := ⟨_, rfl⟩
      have hR12 : R1 ++ R2 = R := by rw [← hR1, ← hR2, List.take_append_drop]
      have hR1l : R1.length = i - m := by rw [← hR1, List.length_take]; omega
      rw [hR1] at hF1
      rw [hR2] at hF2
      have hE1 := hEr.cast (ys := p ++ x :: (R1 ++ R2 ++ q)) (by rw [hR12])
      have HR12 := Lib.hid hR12
      clear hR1 hR2 hR12
      go_wp2_with fail
      go_loopw [13] (fun kv wq => ∃ (k : Nat) (A B : List Nat), kv = .int .i64 (k : Int) ∧ R1 = A ++ B ∧ a + A.length = k ∧ El enc rest g (p ++ (A ++ x :: B) ++ (R2 ++ q)) wq ∧ Seq.Kpt (fun i => i = g) W wq) (fun kv _ => i1 - (intOf kv).toNat)
      case atStart => exact ⟨a, [], R1, rfl, rfl, rfl, hE1.cast (by simp), hkr⟩
      case round =>
        obtain ⟨k, A, B, rfl, hAB, hAk, hEk, hkk⟩ := hrel
        have hABl : A.length + B.length = i - m := by rw [← hR1l, hAB]; simp
        by_cases hkl : k < i1
        · have hkz : (k : Int) < (i1 : Int) := by omega
          obtain ⟨y, B', rfl⟩ : ∃ y B', B = y :: B' := by
            cases B with
            | nil => simp at hABl; omega
            | cons y B' => exact ⟨y, B', rfl⟩
          obtain ⟨J, hJ⟩ : ∃ J : Nat, k + 1 = J := ⟨_, rfl⟩
          have w5 : (k : Int) + 1 = (J : Int) := by omega
          have w6 : IntKind.i64.wrap (J : Int) = (J : Int) := wrapN (by omega)
          have hsw := El.swapLo (x := x) (y := y) (A := p ++ A) (B := []) (C := B' ++ R2 ++ q) (I := k) (J := J) (hEk.cast (by simp)) (by simp; omega) (by simp; omega)
          obtain ⟨Ax, nx, cx, hex⟩ := hform x
          obtain ⟨Ay, ny, cy, hey⟩ := hform y
          rw [hex, hey] at hsw
          obtain ⟨d1, d0, d2, q2, hE2⟩ := hsw
          have hk2 : Seq.Kpt (fun i => i = g) W ((wr.setCell ⟨g, k, none⟩ (.slice Ay ny cy)).setCell ⟨g, J, none⟩ (.slice Ax nx cx)) := (hkk.trans (Seq.Kpt.setCell wr ⟨g, k, none⟩ _) (fun _ _ h => h.elim id id)).trans (Seq.Kpt.setCell _ ⟨g, J, none⟩ _) (fun _ _ h => h.elim id id)
          have e1 : wr.drew.cell? ⟨g, k, none⟩ = some (.slice Ax nx cx) := d1
          have e0 : wr.drew.cell? ⟨g, J, none⟩ = some (.slice Ay ny cy) := d0
          have e2 : (wr.setCell ⟨g, k, none⟩ (.slice Ay ny cy)).drew.cell? ⟨g, J, none⟩ = some (.slice Ay ny cy) := d2
          have e3 : (wr.setCell ⟨g, k, none⟩ (.slice Ay ny cy)).drew.frozen? ⟨g, J, none⟩ = false := q2
          have e4 : wr.drew.frozen? ⟨g, k, none⟩ = false := hEk.frozen k
          have e5 : wr.drew.frozen? ⟨g, J, none⟩ = false := hEk.frozen J
          have n1 : (k : Int) < (n : Int) := by omega
          have n2 : (J : Int) < (n : Int) := by omega
          have n3 : k < n := by omega
          have n4 : J < n := by omega
          have n5 : J ≠ k := by omega
          have n6 : k ≠ J := by omega
          have HE2 := Lib.hid (And.intro hE2 hk2)
          clear hE2 hk2 d1 d0 d2 q2 hex hey
          go_wp2_with fail
          go_big_region_o
          go_wp2
          go_roundw
          case rel => exact ⟨J, A ++ [y], B', by go_num, by rw [hAB]; simp, by simp; omega, El.cast HE2.out.1 (by simp), HE2.out.2.trans (Seq.Kpt.drew _ _) (fun _ _ h => h.elim id id)⟩
          case measure => simp [intOf]; omega
        · have hkz : ¬ (k : Int) < (i1 : Int) := by omega
          obtain rfl : B = [] := List.eq_nil_of_length_eq_zero (by omega)
          rw [List.append_nil] at hAB
          subst hAB
          go_wp2
          refine bodyPost_ret (results_none rfl _ _ _) rfl ?_
          refine ⟨rfl, R1 ++ x :: R2, ?_, ?_, hkk, hEk.cast (by simp)⟩
          · rw [← HR12.out]
            exact List.perm_middle
          · have hRs' := hRs
            rw [← HR12.out] at hRs'
            refine pw_append (List.pairwise_append.1 hRs').1 (List.pairwise_cons.2 ⟨hF2, (List.pairwise_append.1 hRs').2.1⟩) ?_
            intro y hy t ht
            rcases List.mem_cons.1 ht with ht | ht
            · rw [ht]; exact hF1 y hy
            · exact (List.pairwise_append.1 hRs').2.2 y hy t ht
end Go.Proofs.YtihdlalbgdighaaDoor.QV
/- slices.BinarySearchFunc over groups. -/
namespace Go.Proofs.YtihdlalbgdighaaDoor.QV
open Go.RowKit Go.Proofs.YtihdlalbgdighaaDoorW.PrintWords Go.Proofs.YtihdlalbgdighaaDoor.SeqW Go.Proofs.YtihdlalbgdighaaDoor.SeqX Go.Shelf Go.Proofs.YtihdlalbgdighaaDoor.Op Go.Proofs.YtihdlalbgdighaaDoor.Stab
set_option linter.unusedVariables false
set_option linter.unusedSimpArgs false

/-- A group: its key, its rows; where they lie. -/
structure GE where
  key : Row
  rows : List Row
  ka : Option Addr
  kc : Nat
  ra : Option Addr
  rc : Nat
  tag : Nat
def zGE : GE := ⟨[], [], none, 0, none, 0, 0⟩
def GE.raw (g : GE) : Raw := (.slice g.ka g.key.length g.kc, .slice g.ra g.rows.length g.rc)
theorem GE.one (g : GE) : One g.raw := ⟨rfl, rfl⟩
def ordK (a b : Row) : Int := rowsV (a.map toV) (b.map toV)
theorem preK : Pre ordK := preRows.on (fun x : Row => x.map toV)
/-- What is read of a group's key. -/
def KeyOk (w : World) (g : GE) : Prop := g.key.length ≤ g.kc ∧ kS.C w g.ka g.key.length g.key
set_option maxHeartbeats 1000000 in
theorem cmpGr_any (x : GE) (k : Row) (KB : Option Addr) (kc : Nat) (w : World) (hx : KeyOk w x) (hk : kS.C w KB k.length k) (hkc : k.length ≤ kc) :
    Calls Tryd.prog 58 #[.agg #[x.raw.1, x.raw.2], .slice KB k.length kc] w fun e w' => e = .returned (.int .i64 (ordK x.key k)) ∧ Below w.heap.size w w' := by
  obtain ⟨xk, xr, ka, kac, ra, rc, tg⟩ := x
  simp only [GE.raw, KeyOk] at hx ⊢
  go_enter Tryd.func58, Tryd.ntmps58
  go_wp2_with fail
  obtain ⟨w1, hw1⟩ : ∃ w1, w.alloc (.cells #[.slice ka xk.length kac, .slice ra xr.length rc] 115) = w1 := ⟨_, rfl⟩
  rw [hw1]
  have hb1 : Below w.heap.size w w1 := by rw [← hw1]; exact below_alloc (Below.refl _ _) _
  clear hw1
  have hr := rows_any ka (xk.map toV) kac KB (k.map toV) kc w1 (C_toV (Kd.C_below hx.2 hb1)) (by simpa using hx.1) (C_toV (Kd.C_below hk hb1)) (by simpa using hkc)
  rw [List.length_map, List.length_map] at hr
  refine hr.mono ?_
  rintro e w5 ⟨rfl, hb⟩
  go_wp2
  go_ret
  exact ⟨rfl, hb1.trans (hb.mono hb1.size)⟩
/-- Where the cells of groups lie. -/
def CellsG (w : World) (A : Option Addr) (G : List GE) : Prop := ∀ i, i < G.length → ∃ ad, A = some ad ∧ w.cell? (ad.add (i * 2)) = some (G.getD i zGE).raw.1 ∧ w.cell? ⟨(ad.add (i * 2)).block, (ad.add (i * 2)).off + 1, none⟩ = some (G.getD i zGE).raw.2
def RiseG (G : List GE) : Prop := G.Pairwise (fun x y => ordK x.key y.key < 0)
theorem CellsG.below {w w1 : World} {A : Option Addr} {G : List GE} (h : CellsG w A G) (hb : Below w.heap.size w w1) : CellsG w1 A G := by
  intro i hi
  obtain ⟨ad, e, h1, h2⟩ := h i hi
  exact ⟨ad, e, pw_cell_below hb h1, pw_cell_below hb h2⟩
theorem KeyOk.below {w w1 : World} {g : GE} (h : KeyOk w g) (hb : Below w.heap.size w w1) : KeyOk w1 g := ⟨h.1, Kd.C_below h.2 hb⟩
/-- What the search tells. -/
def SrchG (G : List GE) (k : Row) (w : World) (e : Ending) (w' : World) : Prop := ∃ (i : Nat) (b : Bool), e = .returned (.tuple #[.int .i64 i, .bool b]) ∧ i ≤ G.length ∧ (∀ x ∈ G.take i, ordK x.key k < 0) ∧ (∀ x ∈ G.drop i, 0 ≤ ordK x.key k) ∧ b = decide (i < G.length ∧ ordK (G.getD i zGE).key k = 0) ∧ Below w.heap.size w w'
set_option maxRecDepth 100000 in
set_option maxHeartbeats 8000000 in
theorem searchG_any (A : Option Addr) (G : List GE) (c : Nat) (k : Row) (KB : Option Addr) (kc : Nat) (w : World) (hc : CellsG w A G) (hK : ∀ g ∈ G, KeyOk w g) (hk : kS.C w KB k.length k) (hkc : k.length ≤ kc) (hs : RiseG G) (hn : G.length ≤ 1048576) :
    Calls Tryd.prog 57 #[.slice A G.length c, .slice KB k.length kc, .func (.func 58) #[] #[]] w (SrchG G k w) := by
  go_enter Tryd.func57, Tryd.ntmps57
  go_wp2_with fail
  go_loopw [9, 10] (fun iv jv wr => ∃ (i j : Nat), iv = .int .i64 (i : Int) ∧ jv = .int .i64 (j : Int) ∧ i ≤ j ∧ j ≤ G.length ∧ (∀ x ∈ G.take i, ordK x.key k < 0) ∧ (∀ x ∈ G.drop j, 0 ≤ ordK x.key k) ∧ Below w.heap.size w wr) (fun iv jv _ => (intOf jv).toNat - (intOf iv).toNat)
  case atStart => exact ⟨0, G.length, rfl, rfl, Nat.zero_le _, Nat.le_refl _, by simp, by simp, Below.refl _ _⟩
  case round =>
    obtain ⟨i, j, rfl, rfl, hij, hjn, hF1, hF2, hBw⟩ := hrel
    by_cases hlt : i < j
    · have hlz : (i : Int) < (j : Int) := by omega
      obtain ⟨s, hs0⟩ : ∃ s : Nat, i + j = s := ⟨_, rfl⟩
      obtain ⟨h, hh⟩ : ∃ h : Nat, s / 2 = h := ⟨_, rfl⟩
      have w1' : (i : Int) + (j : Int) = (s : Int) := by omega
      have w2 : IntKind.i64.wrap (s : Int) = (s : Int) := wrapN (by omega)
      have w3 : (s : Int) / 2 = (h : Int) := by omega
      have w4 : (h : Int) < (G.length : Int) := by omega
      have w4' : h < G.length := by omega
      obtain ⟨ad, rfl, q0, q1⟩ := (hc.below hBw) h w4'
      have hd := drop_get zGE G h w4'
      have ht := take_snoc' zGE G h w4'
      have hkx := (hK _ (getD_mem zGE w4')).below hBw
      generalize G.getD h zGE = x at *
      obtain ⟨n, hn'⟩ : ∃ n, ordK x.key k = n := ⟨_, rfl⟩
      have hcc := fun V hV => cmpGr_any x k KB kc V (hkx.below hV) (Kd.C_below (Kd.C_below hk hBw) hV) hkc
      rw [hn'] at hcc
      have HCC := Lib.hid hcc
      clear hcc
      simp only [GE.raw] at q0 q1
      go_wp2_with fail
      refine (HCC.out wr (Below.refl _ _)).mono ?_
      rintro e w5 ⟨rfl, hb5⟩
      have hB5 : Below w.heap.size w w5 := hBw.trans (hb5.mono hBw.size)
      clear HCC
      by_cases hz : n < 0
      · go_wp2_with fail
        go_roundw
        case rel =>
          refine ⟨h + 1, j, by go_num, rfl, by omega, hjn, ?_, hF2, hB5⟩
          rw [← ht]
          intro y hy
          rcases List.mem_append.1 hy with hy | hy
          · have hyx : ordK y.key x.key < 0 := by
              have h9 := hs
              unfold RiseG at h9
              rw [← List.take_append_drop h G, hd] at h9
              exact (List.pairwise_append.1 h9).2.2 y hy x (by simp)
            exact preK.lt_le hyx (by rw [hn']; omega)
          · rw [List.mem_singleton.1 hy, hn']; exact hz
        case measure => simp [intOf]; omega
      · go_wp2_with fail
        go_roundw
        case rel =>
          refine ⟨i, h, rfl, by go_num, by omega, by omega, hF1, ?_, hB5⟩
          rw [hd]
          intro y hy
          rcases List.mem_cons.1 hy with hy | hy
          · rw [hy, hn']; omega
          · have hxy : ordK x.key y.key < 0 := by
              have h9 := List.Pairwise.sublist (List.drop_sublist h G) hs
              rw [hd] at h9
              exact (List.pairwise_cons.1 h9).1 y hy
            refine Classical.byContradiction fun hlt' => ?_
            have := preK.lt_le hxy (show ordK y.key k ≤ 0 by omega)
            omega
        case measure => simp [intOf]; omega
    · obtain rfl : i = j := by omega
      have hlz : ¬ (i : Int) < (i : Int) := by omega
      clear hlt
      by_cases hin : i < G.length
      · have hiz : (i : Int) < (G.length : Int) := by omega
        obtain ⟨ad, rfl, q0, q1⟩ := (hc.below hBw) i hin
        have hkx := (hK _ (getD_mem zGE hin)).below hBw
        obtain ⟨x, hgx⟩ : ∃ x, G.getD i zGE = x := ⟨_, rfl⟩
        rw [hgx] at q0 q1 hkx
        have HGX := Lib.hid hgx
        have HF := Lib.hid (And.intro hF1 hF2)
        clear hgx hF1 hF2
        obtain ⟨n, hn'⟩ : ∃ n, ordK x.key k = n := ⟨_, rfl⟩
        have hcc := fun V hV => cmpGr_any x k KB kc V (hkx.below hV) (Kd.C_below (Kd.C_below hk hBw) hV) hkc
        rw [hn'] at hcc
        have HCC := Lib.hid hcc
        have HN := Lib.hid hn'
        clear hcc hn'
        simp only [GE.raw] at q0 q1
        go_wp2_with fail
        refine (HCC.out wr (Below.refl _ _)).mono ?_
        rintro e w5 ⟨rfl, hb5⟩
        have hB5 : Below w.heap.size w w5 := hBw.trans (hb5.mono hBw.size)
        clear HCC
        obtain ⟨bz, hbz⟩ : ∃ bz : Bool, (n == 0) = bz := ⟨_, rfl⟩
        have hbd : decide (n = 0) = bz := by rw [← hbz]; rfl
        have HBZ := Lib.hid hbz
        go_wp2_with fail
        refine bodyPost_ret (v := .tuple #[.int .i64 i, .bool bz]) (by simp [results, Tryd.results57, go_sem]; try rfl) rfl ?_
        refine ⟨i, bz, rfl, by omega, HF.out.1, HF.out.2, ?_, hB5⟩
        rw [← HBZ.out, HGX.out, HN.out]
        simp [hin]
        rfl
      · have hiz : ¬ (i : Int) < (G.length : Int) := by omega
        have HF := Lib.hid (And.intro hF1 hF2)
        clear hF1 hF2
        go_wp2_with fail
        refine bodyPost_ret (v := .tuple #[.int .i64 i, .bool false]) (by simp [results, Tryd.results57, go_sem]; try rfl) rfl ?_
        exact ⟨i, false, rfl, by omega, HF.out.1, HF.out.2, by simp [hin], hBw⟩
end Go.Proofs.YtihdlalbgdighaaDoor.QV
/- slices.MinFunc, slices.MaxFunc over values. -/
namespace Go.Proofs.YtihdlalbgdighaaDoor.QV
open Go.RowKit Go.Proofs.YtihdlalbgdighaaDoorW.PrintWords Go.Proofs.YtihdlalbgdighaaDoor.SeqW Go.Proofs.YtihdlalbgdighaaDoor.SeqX Go.Shelf Go.Proofs.YtihdlalbgdighaaDoor.Op Go.Proofs.YtihdlalbgdighaaDoor.Stab
set_option linter.unusedVariables false
set_option linter.unusedSimpArgs false

/-- A value's cells. -/
def cv (v : S') : Array Value := #[.int .i64 v.f0, .bool v.f1, .int .i64 v.f2, .string v.f3]
def set4 (V : World) (g : Nat) (v : S') : World := (((V.setCell ⟨g, 0, none⟩ (.int .i64 v.f0)).setCell ⟨g, 1, none⟩ (.bool v.f1)).setCell ⟨g, 2, none⟩ (.int .i64 v.f2)).setCell ⟨g, 3, none⟩ (.string v.f3)
theorem set4_at {V : World} {g t : Nat} {u v : S'} (h : V.heap[g]? = some (.cells (cv u) t (0, 0))) : (set4 V g v).heap[g]? = some (.cells (cv v) t (0, 0)) := by
  have := blk_set (blk_set (blk_set (blk_set h 0 (.int .i64 v.f0)) 1 (.bool v.f1)) 2 (.int .i64 v.f2)) 3 (.string v.f3)
  simpa [cv, set4] using this
theorem set4_kpt (V : World) (g : Nat) (v : S') : Seq.Kpt (fun i => i = g) V (set4 V g v) := by
  have hk : ∀ (V : World) (j : Nat) (u : Value), Seq.Kpt (fun i => i = g) V (V.setCell ⟨g, j, none⟩ u) := fun V j u => Seq.Kpt.setCell V ⟨g, j, none⟩ u
  exact (((hk _ _ _).trans (hk _ _ _) (fun _ _ h => h.elim id id)).trans (hk _ _ _) (fun _ _ h => h.elim id id)).trans (hk _ _ _) (fun _ _ h => h.elim id id)
theorem set4_below {B : Nat} {w V : World} {g : Nat} {v : S'} (h : Below B w V) (hB : B ≤ V.heap.size) (hg : B ≤ g) : Below B w (set4 V g v) := h.trans ((set4_kpt V g v).below hB (fun i _ e => by rw [e]; exact hg))
theorem cv_cells {V : World} {g : Nat} {v : S'} {t : TypeId} (h : V.heap[g]? = some (.cells (cv v) t (0, 0))) : V.cell? ⟨g, 0, none⟩ = some (.int .i64 v.f0) ∧ V.cell? ⟨g, 1, none⟩ = some (.bool v.f1) ∧ V.cell? ⟨g, 2, none⟩ = some (.int .i64 v.f2) ∧ V.cell? ⟨g, 3, none⟩ = some (.string v.f3) :=
  ⟨blk_cell h 0, blk_cell h 1, blk_cell h 2, blk_cell h 3⟩
theorem cv_frozen {V : World} {g : Nat} {v : S'} {t : TypeId} (h : V.heap[g]? = some (.cells (cv v) t (0, 0))) : V.frozen? ⟨g, 0, none⟩ = false ∧ V.frozen? ⟨g, 1, none⟩ = false ∧ V.frozen? ⟨g, 2, none⟩ = false ∧ V.frozen? ⟨g, 3, none⟩ = false :=
  ⟨blk_frozen h 0, blk_frozen h 1, blk_frozen h 2, blk_frozen h 3⟩
theorem kS_atV {w : World} {A : Option Addr} {xs : Row} (h : kS.C w A xs.length xs) (i : Nat) (hi : i < xs.length) : ∃ ad, A = some ad ∧ w.cell? (ad.add (i * 4)) = some (.int .i64 (xs.getD i zV).f0) ∧ w.cell? ⟨(ad.add (i * 4)).block, (ad.add (i * 4)).off + 1, none⟩ = some (.bool (xs.getD i zV).f1) ∧ w.cell? ⟨(ad.add (i * 4)).block, (ad.add (i * 4)).off + 2, none⟩ = some (.int .i64 (xs.getD i zV).f2) ∧ w.cell? ⟨(ad.add (i * 4)).block, (ad.add (i * 4)).off + 3, none⟩ = some (.string (xs.getD i zV).f3) := by
  obtain ⟨ad, c, e, _, hK, hc0⟩ := Kd.C_get h zV i (by omega) (by omega)
  have hc : ∀ j u, c[j]? = some u → w.cell? (ad.add (i * 4 + j)) = some u := hc0
  obtain rfl := k61_open hK
  exact ⟨ad, e, hc 0 _ rfl, by rw [← add_field _ _ 1 (by omega)]; exact hc 1 _ rfl, by rw [← add_field _ _ 2 (by omega)]; exact hc 2 _ rfl, by rw [← add_field _ _ 3 (by omega)]; exact hc 3 _ rfl⟩

def minV : S' → List S' → S'
  | m, [] => m
  | m, y :: l => if cmpV (toV y) (toV m) < 0 then minV y l else minV m l
set_option maxRecDepth 100000 in
set_option maxHeartbeats 8000000 in
theorem min_any (A : Option Addr) (x : S') (l : List S') (c : Nat) (w : World) (hC : kS.C w A (x :: l).length (x :: l)) (hc : (x :: l).length ≤ c) :
    Calls Tryd.prog 86 #[.slice A (x :: l).length c, .func (.func 48) #[] #[]] w fun e w' => e = .returned (.agg (cv (minV x l))) ∧ Below w.heap.size w w' := by
  have hml := hC.2.1
  obtain ⟨ad, rfl, q0, q1, q2, q3⟩ := kS_atV hC 0 (by simp)
  have hx0 : (x :: l).getD 0 zV = x := rfl
  rw [hx0, Nat.zero_mul] at q0 q1 q2 q3
  have had : ad.add 0 = ad := by simp [Addr.add]
  rw [had] at q0 q1 q2 q3
  have hln : (x :: l).length = l.length + 1 := rfl
  obtain ⟨n, hn⟩ : ∃ n, (x :: l).length = n := ⟨_, rfl⟩
  have hnl : n = l.length + 1 := by omega
  have h1n : (1 : Int) < (n : Int) + 1 := by omega
  have h1n' : ¬ ((n : Int) < 1) := by omega
  have h0n : (0 : Int) < (n : Int) := by omega
  rw [hn] at hC hc hml ⊢
  have hgd : ∀ i, i < n → ∀ V, Below w.heap.size w V → ∃ y, (x :: l).getD i zV = y ∧ V.cell? (ad.add (i * 4)) = some (.int .i64 y.f0) ∧ V.cell? ⟨(ad.add (i * 4)).block, (ad.add (i * 4)).off + 1, none⟩ = some (.bool y.f1) ∧ V.cell? ⟨(ad.add (i * 4)).block, (ad.add (i * 4)).off + 2, none⟩ = some (.int .i64 y.f2) ∧ V.cell? ⟨(ad.add (i * 4)).block, (ad.add (i * 4)).off + 3, none⟩ = some (.string y.f3) := by
    intro i hi V hV
    obtain ⟨ad', e, r0, r1, r2, r3⟩ := kS_atV (xs := x :: l) (by rw [hn]; exact Kd.C_below hC hV) i (by omega)
    injection e with e
    subst e
    exact ⟨_, rfl, r0, r1, r2, r3⟩
  have HGD := Lib.hid hgd
  have hfin : ∀ i m, i < n → (minV m ((x :: l).drop i) = if cmpV (toV ((x :: l).getD i zV)) (toV m) < 0 then minV ((x :: l).getD i zV) ((x :: l).drop (i + 1)) else minV m ((x :: l).drop (i + 1))) := by
    intro i m hi
    rw [drop_get zV (x :: l) i (by omega), minV]
  have HFIN := Lib.hid hfin
  have hst : minV x ((x :: l).drop 1) = minV x l := rfl
  have HEND := Lib.hid (show (x :: l).drop n = [] from List.drop_of_length_le (by omega))
  clear hgd hfin
  obtain ⟨R, hR⟩ : ∃ R, minV x l = R := ⟨_, rfl⟩
  rw [hR] at hst ⊢
  generalize hL : x :: l = L at *
  have HL := Lib.hid (And.intro hL hR)
  clear hL hx0 hR hn hln hnl hC
  obtain ⟨x0, x1, x2, x3⟩ := x
  go_enter Tryd.func86, Tryd.ntmps86
  obtain ⟨w1, hw1⟩ : ∃ w1, w.alloc (.cells (cv zV) 61) = w1 := ⟨_, rfl⟩
  have hb1 : Below w.heap.size w w1 := by rw [← hw1]; exact below_alloc (Below.refl _ _) _
  have g1 : w1.heap[w.heap.size]? = some (.cells (cv zV) 61 (0, 0)) := by rw [← hw1]; exact blk_new _ _
  have hs1 : w1.heap.size = w.heap.size + 1 := by rw [← hw1]; simp
  have hw1' : w.alloc (.cells #[.int .i64 0, .bool false, .int .i64 0, .string ⟨#[]⟩] 61) = w1 := hw1
  clear hw1
  replace q0 := pw_cell_below hb1 q0
  replace q1 := pw_cell_below hb1 q1
  replace q2 := pw_cell_below hb1 q2
  replace q3 := pw_cell_below hb1 q3
  simp only at q0 q1 q2 q3
  go_wp2_with (rw [hw1'])
  obtain ⟨w2, hw2⟩ : ∃ w2, w1.alloc (.cells #[.int .i64 x0, .bool x1, .int .i64 x2, .string x3] 61) = w2 := ⟨_, rfl⟩
  rw [hw2]
  have hb2 : Below w.heap.size w w2 := hb1.trans ((by rw [← hw2]; exact below_alloc (Below.refl _ _) _ : Below w1.heap.size w1 w2).mono hb1.size)
  have g2 : w2.heap[w.heap.size]? = some (.cells (cv zV) 61 (0, 0)) := by rw [← hw2]; exact blk_alloc g1 _
  have m2 : w2.heap[w.heap.size + 1]? = some (.cells (cv ⟨x0, x1, x2, x3⟩) 61 (0, 0)) := by rw [← hw2, ← hs1]; exact blk_new _ _
  clear hw2 q0 q1 q2 q3
  go_loopw [6] (fun iv wr => ∃ (i : Nat) (m : S'), iv = .int .i64 (i : Int) ∧ i ≤ n ∧ minV m (L.drop i) = R ∧ wr.heap[w.heap.size + 1]? = some (.cells (cv m) 61 (0, 0)) ∧ wr.heap[w.heap.size]? = some (.cells (cv zV) 61 (0, 0)) ∧ Below w.heap.size w wr) (fun iv _ => n - (intOf iv).toNat)
  case atStart => exact ⟨1, _, rfl, by omega, hst, m2, g2, hb2⟩
  case round =>
    obtain ⟨i, m, rfl, hi, hf, gm, gz, hB⟩ := hrel
    by_cases hlt : i < n
    · have hlz : (i : Int) < (n : Int) := by omega
      obtain ⟨y, hy, q0, q1, q2, q3⟩ := HGD.out i hlt wr hB
      have hF := HFIN.out i m hlt
      rw [hf, hy] at hF
      have hgy : ∀ V, Below w.heap.size w V → V.cell? (ad.add (i * 4)) = some (.int .i64 y.f0) ∧ V.cell? ⟨(ad.add (i * 4)).block, (ad.add (i * 4)).off + 1, none⟩ = some (.bool y.f1) ∧ V.cell? ⟨(ad.add (i * 4)).block, (ad.add (i * 4)).off + 2, none⟩ = some (.int .i64 y.f2) ∧ V.cell? ⟨(ad.add (i * 4)).block, (ad.add (i * 4)).off + 3, none⟩ = some (.string y.f3) := by
        intro V hV
        obtain ⟨y', hy', r⟩ := HGD.out i hlt V hV
        rw [hy] at hy'
        subst hy'
        exact r
      have HGY := Lib.hid hgy
      clear hgy hy q0 q1 q2 q3
      obtain ⟨y0, y1, y2, y3⟩ := y
      obtain ⟨z0, z1, z2, z3⟩ := m
      have hgmS : ∀ V, Below wr.heap.size wr V → V.cell? ⟨w.heap.size + 1, 0, none⟩ = some (.int .i64 z0) ∧ V.cell? ⟨w.heap.size + 1, 1, none⟩ = some (.bool z1) ∧ V.cell? ⟨w.heap.size + 1, 2, none⟩ = some (.int .i64 z2) ∧ V.cell? ⟨w.heap.size + 1, 3, none⟩ = some (.string z3) := fun V hV => cv_cells (v := ⟨z0, z1, z2, z3⟩) (blk_below gm hV)
      obtain ⟨k, hk⟩ : ∃ k, cmpV (toV ⟨y0, y1, y2, y3⟩) (toV ⟨z0, z1, z2, z3⟩) = k := ⟨_, rfl⟩
      rw [hk] at hF
      have HS := fun V (hV : Below wr.heap.size wr V) => And.intro (HGY.out V (hB.trans (hV.mono hB.size))) (hgmS V hV)
      have HSS := Lib.hid HS
      have HF := Lib.hid hF
      have HK := Lib.hid hk
      clear hF hk HS hgmS
      simp only at HSS
      go_wp2_with fail
      refine (wpIn_wide (n := 0)).1 ?_
      refine wpIn_region_X (l := 0) 8 (S := fun V => (V.cell? (ad.add (i * 4)) = some (.int .i64 y0) ∧ V.cell? ⟨(ad.add (i * 4)).block, (ad.add (i * 4)).off + 1, none⟩ = some (.bool y1) ∧ V.cell? ⟨(ad.add (i * 4)).block, (ad.add (i * 4)).off + 2, none⟩ = some (.int .i64 y2) ∧ V.cell? ⟨(ad.add (i * 4)).block, (ad.add (i * 4)).off + 3, none⟩ = some (.string y3)) ∧ (V.cell? ⟨w.heap.size + 1, 0, none⟩ = some (.int .i64 z0) ∧ V.cell? ⟨w.heap.size + 1, 1, none⟩ = some (.bool z1) ∧ V.cell? ⟨w.heap.size + 1, 2, none⟩ = some (.int .i64 z2) ∧ V.cell? ⟨w.heap.size + 1, 3, none⟩ = some (.string z3))) (by kernel_rfl) (HSS.out _ (below_drew (Below.refl _ _))) (fun hS0 => ?_)
      refine wpAnyX_pure (i := 0) (oi := ⟨some 20, _, _, _, _, _⟩) (v := ?_) (by kernel_rfl) (by kernel_rfl) rfl (by kernel_rfl) (by kernel_rfl) (by kernel_rfl) (fun _ _ _ h => h) (Or.inl ⟨by rfl, ?_⟩) (by assumption) ?_
      rotate_left
      · intro w _; go_simp; (try (with_reducible rfl))
      (try simp only [Act.put, List.setIfInBounds_toArray, List.set_cons_zero, List.set_cons_succ])
      refine wpAnyX_pure (i := 1) (oi := ⟨some 21, _, _, _, _, _⟩) (v := ?_) (by kernel_rfl) (by kernel_rfl) rfl (by kernel_rfl) (by kernel_rfl) (by kernel_rfl) (fun _ _ _ h => h) (Or.inl ⟨by rfl, ?_⟩) (by assumption) ?_
      rotate_left
      · intro w _; go_simp; (try (with_reducible rfl))
      (try simp only [Act.put, List.setIfInBounds_toArray, List.set_cons_zero, List.set_cons_succ])
      refine wpAnyX_pure (i := 2) (oi := ⟨some 22, _, _, _, _, _⟩) (v := ?_) (by kernel_rfl) (by kernel_rfl) rfl (by kernel_rfl) (by kernel_rfl) (by kernel_rfl) (fun _ _ _ h => h) (Or.inl ⟨by rfl, ?_⟩) (by assumption) ?_
      rotate_left
      · intro w _; go_simp; (try (with_reducible rfl))
      (try simp only [Act.put, List.setIfInBounds_toArray, List.set_cons_zero, List.set_cons_succ])
      refine wpAnyX_pure (i := 3) (oi := ⟨some 23, _, _, _, _, _⟩) (v := ?_) (by kernel_rfl) (by kernel_rfl) rfl (by kernel_rfl) (by kernel_rfl) (by kernel_rfl) (fun _ _ _ h => h) (Or.inl ⟨by rfl, ?_⟩) (by assumption) ?_
      rotate_left
      · intro w _; go_simp; (try (with_reducible rfl))
      (try simp only [Act.put, List.setIfInBounds_toArray, List.set_cons_zero, List.set_cons_succ])
      refine wpAnyX_take (i := 4) (oi := ⟨some 24, _, _, _, _, _⟩) (v := ?_) (by kernel_rfl) (by kernel_rfl) (by kernel_rfl) rfl (by kernel_rfl) (by kernel_rfl) (by kernel_rfl) (by kernel_rfl) (fun _ _ _ h => h) (Or.inl ⟨by rfl, ?_⟩) (by assumption) ?_
      rotate_left
      · intro w hSw; (try dsimp only at hSw); (try go_split_ands); go_simp; (try (with_reducible rfl))
      (try simp only [Act.put, List.setIfInBounds_toArray, List.set_cons_zero, List.set_cons_succ])
      refine wpAnyX_take (i := 5) (oi := ⟨some 25, _, _, _, _, _⟩) (v := ?_) (by kernel_rfl) (by kernel_rfl) (by kernel_rfl) rfl (by kernel_rfl) (by kernel_rfl) (by kernel_rfl) (by kernel_rfl) (fun _ _ _ h => h) (Or.inl ⟨by rfl, ?_⟩) (by assumption) ?_
      rotate_left
      · intro w hSw; (try dsimp only at hSw); (try go_split_ands); go_simp; (try (with_reducible rfl))
      (try simp only [Act.put, List.setIfInBounds_toArray, List.set_cons_zero, List.set_cons_succ])
      refine wpAnyX_one (i := 6) (o := ⟨some 26, _, _, _, _, _⟩) (by kernel_rfl) (by kernel_rfl) rfl (fun K hK => ?_)
      go_simp
      refine (value_Compare.calls y0 y1 y2 y3 z0 z1 z2 z3 k wr.drew (by rw [← HK.out]; rfl)).mono ?_
      rintro e w5 ⟨rfl, hb5⟩
      have hb5' : Below wr.heap.size wr w5 := (below_drew (Below.refl _ wr)).trans hb5
      have hB5 : Below w.heap.size w w5 := hB.trans (hb5'.mono hB.size)
      have hS5 := HSS.out w5 hb5'
      have gm5 := blk_below gm hb5'
      have gz5 := blk_below gz hb5'
      (try dsimp only)
      refine hK.out _ _ (.inr hS5) ?_
      clear hK K
      (try simp only [Act.put, List.setIfInBounds_toArray, List.set_cons_zero, List.set_cons_succ])
      by_cases hz : k < 0
      ·
        refine wpAnyX_pure (i := 7) (oi := ⟨some 27, _, _, _, _, _⟩) (v := ?_) (by kernel_rfl) (by kernel_rfl) rfl (by kernel_rfl) (by kernel_rfl) (by kernel_rfl) (fun _ _ _ h => h) (Or.inl ⟨by rfl, ?_⟩) (by assumption) ?_
        rotate_left
        · intro w _; go_simp; (try (with_reducible rfl))
        (try simp only [Act.put, List.setIfInBounds_toArray, List.set_cons_zero, List.set_cons_succ])
        refine wpAnyX_done (by kernel_rfl) ?_ _
        obtain ⟨⟨q0, q1, q2, q3⟩, _⟩ := hS5
        obtain ⟨c0, c1, c2, c3⟩ := cv_cells gm5
        obtain ⟨f0, f1, f2, f3⟩ := cv_frozen gm5
        simp only at c0 c1 c2 c3
        clear hS0
        go_wp2
        have hset : (((w5.setCell ⟨w.heap.size + 1, 0, none⟩ (.int .i64 y0)).setCell ⟨w.heap.size + 1, 1, none⟩ (.bool y1)).setCell ⟨w.heap.size + 1, 2, none⟩ (.int .i64 y2)).setCell ⟨w.heap.size + 1, 3, none⟩ (.string y3) = set4 w5 (w.heap.size + 1) ⟨y0, y1, y2, y3⟩ := rfl
        rw [hset]
        go_roundw
        case rel =>
          refine ⟨i + 1, ⟨y0, y1, y2, y3⟩, by go_num, by omega, ?_, set4_at gm5, (set4_kpt _ _ _).at gz5 (by omega), set4_below hB5 (by have := hB5.size; omega) (by omega)⟩
          rw [HF.out, if_pos hz]
        case measure => simp [intOf]; omega
      ·
        refine wpAnyX_pure (i := 7) (oi := ⟨some 27, _, _, _, _, _⟩) (v := ?_) (by kernel_rfl) (by kernel_rfl) rfl (by kernel_rfl) (by kernel_rfl) (by kernel_rfl) (fun _ _ _ h => h) (Or.inl ⟨by rfl, ?_⟩) (by assumption) ?_
        rotate_left
        · intro w _; go_simp; (try (with_reducible rfl))
        (try simp only [Act.put, List.setIfInBounds_toArray, List.set_cons_zero, List.set_cons_succ])
        refine wpAnyX_done (by kernel_rfl) ?_ _
        clear hS5 hS0
        go_wp2
        go_roundw
        case rel =>
          refine ⟨i + 1, ⟨z0, z1, z2, z3⟩, by go_num, by omega, ?_, gm5, gz5, hB5⟩
          rw [HF.out, if_neg hz]
        case measure => simp [intOf]; omega
    · obtain rfl : i = n := by omega
      have hlz : ¬ (i : Int) < (i : Int) := by omega
      rw [HEND.out, minV] at hf
      subst hf
      obtain ⟨c0, c1, c2, c3⟩ := cv_cells gm
      obtain ⟨d0, d1, d2, d3⟩ := cv_cells gz
      obtain ⟨f0, f1, f2, f3⟩ := cv_frozen gz
      obtain ⟨z0, z1, z2, z3⟩ := m
      simp only at c0 c1 c2 c3
      go_wp2
      refine bodyPost_ret (results_cell_row rfl _ _ w.heap.size 61 (cv ⟨z0, z1, z2, z3⟩) (0, 0) _ rfl (set4_at (v := ⟨z0, z1, z2, z3⟩) gz) Tryd.underlying61 rfl rfl) rfl ?_
      exact ⟨rfl, set4_below (v := ⟨z0, z1, z2, z3⟩) hB hB.size (Nat.le_refl _)⟩

def maxV : S' → List S' → S'
  | m, [] => m
  | m, y :: l => if 0 < cmpV (toV y) (toV m) then maxV y l else maxV m l
set_option maxRecDepth 100000 in
set_option maxHeartbeats 8000000 in
theorem max_any (A : Option Addr) (x : S') (l : List S') (c : Nat) (w : World) (hC : kS.C w A (x :: l).length (x :: l)) (hc : (x :: l).length ≤ c) :
    Calls Tryd.prog 87 #[.slice A (x :: l).length c, .func (.func 48) #[] #[]] w fun e w' => e = .returned (.agg (cv (maxV x l))) ∧ Below w.heap.size w w' := by
  have hml := hC.2.1
  obtain ⟨ad, rfl, q0, q1, q2, q3⟩ := kS_atV hC 0 (by simp)
  have hx0 : (x :: l).getD 0 zV = x := rfl
  rw [hx0, Nat.zero_mul] at q0 q1 q2 q3
  have had : ad.add 0 = ad := by simp [Addr.add]
  rw [had] at q0 q1 q2 q3
  have hln : (x :: l).length = l.length + 1 := rfl
  obtain ⟨n, hn⟩ : ∃ n, (x :: l).length = n := ⟨_, rfl⟩
  have hnl : n = l.length + 1 := by omega
  have h1n : (1 : Int) < (n : Int) + 1 := by omega
  have h1n' : ¬ ((n : Int) < 1) := by omega
  have h0n : (0 : Int) < (n : Int) := by omega
  rw [hn] at hC hc hml ⊢
  have hgd : ∀ i, i < n → ∀ V, Below w.heap.size w V → ∃ y, (x :: l).getD i zV = y ∧ V.cell? (ad.add (i * 4)) = some (.int .i64 y.f0) ∧ V.cell? ⟨(ad.add (i * 4)).block, (ad.add (i * 4)).off + 1, none⟩ = some (.bool y.f1) ∧ V.cell? ⟨(ad.add (i * 4)).block, (ad.add (i * 4)).off + 2, none⟩ = some (.int .i64 y.f2) ∧ V.cell? ⟨(ad.add (i * 4)).block, (ad.add (i * 4)).off + 3, none⟩ = some (.string y.f3) := by
    intro i hi V hV
    obtain ⟨ad', e, r0, r1, r2, r3⟩ := kS_atV (xs := x :: l) (by rw [hn]; exact Kd.C_below hC hV) i (by omega)
    injection e with e
    subst e
    exact ⟨_, rfl, r0, r1, r2, r3⟩
  have HGD := Lib.hid hgd
  have hfin : ∀ i m, i < n → (maxV m ((x :: l).drop i) = if 0 < cmpV (toV ((x :: l).getD i zV)) (toV m) then maxV ((x :: l).getD i zV) ((x :: l).drop (i + 1)) else maxV m ((x :: l).drop (i + 1))) := by
    intro i m hi
    rw [drop_get zV (x :: l) i (by omega), maxV]
  have HFIN := Lib.hid hfin
  have hst : maxV x ((x :: l).drop 1) = maxV x l := rfl
  have HEND := Lib.hid (show (x :: l).drop n = [] from List.drop_of_length_le (by omega))
  clear hgd hfin
  obtain ⟨R, hR⟩ : ∃ R, maxV x l = R := ⟨_, rfl⟩
  rw [hR] at hst ⊢
  generalize hL : x :: l = L at *
  have HL := Lib.hid (And.intro hL hR)
  clear hL hx0 hR hn hln hnl hC
  obtain ⟨x0, x1, x2, x3⟩ := x
  go_enter Tryd.func87, Tryd.ntmps87
  obtain ⟨w1, hw1⟩ : ∃ w1, w.alloc (.cells (cv zV) 61) = w1 := ⟨_, rfl⟩
  have hb1 : Below w.heap.size w w1 := by rw [← hw1]; exact below_alloc (Below.refl _ _) _
  have g1 : w1.heap[w.heap.size]? = some (.cells (cv zV) 61 (0, 0)) := by rw [← hw1]; exact blk_new _ _
  have hs1 : w1.heap.size = w.heap.size + 1 := by rw [← hw1]; simp
  have hw1' : w.alloc (.cells #[.int .i64 0, .bool false, .int .i64 0, .string ⟨#[]⟩] 61) = w1 := hw1
  clear hw1
  replace q0 := pw_cell_below hb1 q0
  replace q1 := pw_cell_below hb1 q1
  replace q2 := pw_cell_below hb1 q2
  replace q3 := pw_cell_below hb1 q3
  simp only at q0 q1 q2 q3
  go_wp2_with (rw [hw1'])
  obtain ⟨w2, hw2⟩ : ∃ w2, w1.alloc (.cells #[.int .i64 x0, .bool x1, .int .i64 x2, .string x3] 61) = w2 := ⟨_, rfl⟩
  rw [hw2]
  have hb2 : Below w.heap.size w w2 := hb1.trans ((by rw [← hw2]; exact below_alloc (Below.refl _ _) _ : Below w1.heap.size w1 w2).mono hb1.size)
  have g2 : w2.heap[w.heap.size]? = some (.cells (cv zV) 61 (0, 0)) := by rw [← hw2]; exact blk_alloc g1 _
  have m2 : w2.heap[w.heap.size + 1]? = some (.cells (cv ⟨x0, x1, x2, x3⟩) 61 (0, 0)) := by rw [← hw2, ← hs1]; exact blk_new _ _
  clear hw2 q0 q1 q2 q3
  go_loopw [6] (fun iv wr => ∃ (i : Nat) (m : S'), iv = .int .i64 (i : Int) ∧ i ≤ n ∧ maxV m (L.drop i) = R ∧ wr.heap[w.heap.size + 1]? = some (.cells (cv m) 61 (0, 0)) ∧ wr.heap[w.heap.size]? = some (.cells (cv zV) 61 (0, 0)) ∧ Below w.heap.size w wr) (fun iv _ => n - (intOf iv).toNat)
  case atStart => exact ⟨1, _, rfl, by omega, hst, m2, g2, hb2⟩
  case round =>
    obtain ⟨i, m, rfl, hi, hf, gm, gz, hB⟩ := hrel
    by_cases hlt : i < n
    · have hlz : (i : Int) < (n : Int) := by omega
      obtain ⟨y, hy, q0, q1, q2, q3⟩ := HGD.out i hlt wr hB
      have hF := HFIN.out i m hlt
      rw [hf, hy] at hF
      have hgy : ∀ V, Below w.heap.size w V → V.cell? (ad.add (i * 4)) = some (.int .i64 y.f0) ∧ V.cell? ⟨(ad.add (i * 4)).block, (ad.add (i * 4)).off + 1, none⟩ = some (.bool y.f1) ∧ V.cell? ⟨(ad.add (i * 4)).block, (ad.add (i * 4)).off + 2, none⟩ = some (.int .i64 y.f2) ∧ V.cell? ⟨(ad.add (i * 4)).block, (ad.add (i * 4)).off + 3, none⟩ = some (.string y.f3) := by
        intro V hV
        obtain ⟨y', hy', r⟩ := HGD.out i hlt V hV
        rw [hy] at hy'
        subst hy'
        exact r
      have HGY := Lib.hid hgy
      clear hgy hy q0 q1 q2 q3
      obtain ⟨y0, y1, y2, y3⟩ := y
      obtain ⟨z0, z1, z2, z3⟩ := m
      have hgmS : ∀ V, Below wr.heap.size wr V → V.cell? ⟨w.heap.size + 1, 0, none⟩ = some (.int .i64 z0) ∧ V.cell? ⟨w.heap.size + 1, 1, none⟩ = some (.bool z1) ∧ V.cell? ⟨w.heap.size + 1, 2, none⟩ = some (.int .i64 z2) ∧ V.cell? ⟨w.heap.size + 1, 3, none⟩ = some (.string z3) := fun V hV => cv_cells (v := ⟨z0, z1, z2, z3⟩) (blk_below gm hV)
      obtain ⟨k, hk⟩ : ∃ k, cmpV (toV ⟨y0, y1, y2, y3⟩) (toV ⟨z0, z1, z2, z3⟩) = k := ⟨_, rfl⟩
      rw [hk] at hF
      have HS := fun V (hV : Below wr.heap.size wr V) => And.intro (HGY.out V (hB.trans (hV.mono hB.size))) (hgmS V hV)
      have HSS := Lib.hid HS
      have HF := Lib.hid hF
      have HK := Lib.hid hk
      clear hF hk HS hgmS
      simp only at HSS
      go_wp2_with fail
      refine (wpIn_wide (n := 0)).1 ?_
      refine wpIn_region_X (l := 0) 8 (S := fun V => (V.cell? (ad.add (i * 4)) = some (.int .i64 y0) ∧ V.cell? ⟨(ad.add (i * 4)).block, (ad.add (i * 4)).off + 1, none⟩ = some (.bool y1) ∧ V.cell? ⟨(ad.add (i * 4)).block, (ad.add (i * 4)).off + 2, none⟩ = some (.int .i64 y2) ∧ V.cell? ⟨(ad.add (i * 4)).block, (ad.add (i * 4)).off + 3, none⟩ = some (.string y3)) ∧ (V.cell? ⟨w.heap.size + 1, 0, none⟩ = some (.int .i64 z0) ∧ V.cell? ⟨w.heap.size + 1, 1, none⟩ = some (.bool z1) ∧ V.cell? ⟨w.heap.size + 1, 2, none⟩ = some (.int .i64 z2) ∧ V.cell? ⟨w.heap.size + 1, 3, none⟩ = some (.string z3))) (by kernel_rfl) (HSS.out _ (below_drew (Below.refl _ _))) (fun hS0 => ?_)
      refine wpAnyX_pure (i := 0) (oi := ⟨some 20, _, _, _, _, _⟩) (v := ?_) (by kernel_rfl) (by kernel_rfl) rfl (by kernel_rfl) (by kernel_rfl) (by kernel_rfl) (fun _ _ _ h => h) (Or.inl ⟨by rfl, ?_⟩) (by assumption) ?_
      rotate_left
      · intro w _; go_simp; (try (with_reducible rfl))
      (try simp only [Act.put, List.setIfInBounds_toArray, List.set_cons_zero, List.set_cons_succ])
      refine wpAnyX_pure (i := 1) (oi := ⟨some 21, _, _, _, _, _⟩) (v := ?_) (by kernel_rfl) (by kernel_rfl) rfl (by kernel_rfl) (by kernel_rfl) (by kernel_rfl) (fun _ _ _ h => h) (Or.inl ⟨by rfl, ?_⟩) (by assumption) ?_
      rotate_left
      · intro w _; go_simp; (try (with_reducible rfl))
      (try simp only [Act.put, List.setIfInBounds_toArray, List.set_cons_zero, List.set_cons_succ])
      refine wpAnyX_pure (i := 2) (oi := ⟨some 22, _, _, _, _, _⟩) (v := ?_) (by kernel_rfl) (by kernel_rfl) rfl (by kernel_rfl) (by kernel_rfl) (by kernel_rfl) (fun _ _ _ h => h) (Or.inl ⟨by rfl, ?_⟩) (by assumption) ?_
      rotate_left
      · intro w _; go_simp; (try (with_reducible rfl))
      (try simp only [Act.put, List.setIfInBounds_toArray, List.set_cons_zero, List.set_cons_succ])
      refine wpAnyX_pure (i := 3) (oi := ⟨some 23, _, _, _, _, _⟩) (v := ?_) (by kernel_rfl) (by kernel_rfl) rfl (by kernel_rfl) (by kernel_rfl) (by kernel_rfl) (fun _ _ _ h => h) (Or.inl ⟨by rfl, ?_⟩) (by assumption) ?_
      rotate_left
      · intro w _; go_simp; (try (with_reducible rfl))
      (try simp only [Act.put, List.setIfInBounds_toArray, List.set_cons_zero, List.set_cons_succ])
      refine wpAnyX_take (i := 4) (oi := ⟨some 24, _, _, _, _, _⟩) (v := ?_) (by kernel_rfl) (by kernel_rfl) (by kernel_rfl) rfl (by kernel_rfl) (by kernel_rfl) (by kernel_rfl) (by kernel_rfl) (fun _ _ _ h => h) (Or.inl ⟨by rfl, ?_⟩) (by assumption) ?_
      rotate_left
      · intro w hSw; (try dsimp only at hSw); (try go_split_ands); go_simp; (try (with_reducible rfl))
      (try simp only [Act.put, List.setIfInBounds_toArray, List.set_cons_zero, List.set_cons_succ])
      refine wpAnyX_take (i := 5) (oi := ⟨some 25, _, _, _, _, _⟩) (v := ?_) (by kernel_rfl) (by kernel_rfl) (by kernel_rfl) rfl (by kernel_rfl) (by kernel_rfl) (by kernel_rfl) (by kernel_rfl) (fun _ _ _ h => h) (Or.inl ⟨by rfl, ?_⟩) (by assumption) ?_
      rotate_left
      · intro w hSw; (try dsimp only at hSw); (try go_split_ands); go_simp; (try (with_reducible rfl))
      (try simp only [Act.put, List.setIfInBounds_toArray, List.set_cons_zero, List.set_cons_succ])
      refine wpAnyX_one (i := 6) (o := ⟨some 26, _, _, _, _, _⟩) (by kernel_rfl) (by kernel_rfl) rfl (fun K hK => ?_)
      go_simp
      refine (value_Compare.calls y0 y1 y2 y3 z0 z1 z2 z3 k wr.drew (by rw [← HK.out]; rfl)).mono ?_
      rintro e w5 ⟨rfl, hb5⟩
      have hb5' : Below wr.heap.size wr w5 := (below_drew (Below.refl _ wr)).trans hb5
      have hB5 : Below w.heap.size w w5 := hB.trans (hb5'.mono hB.size)
      have hS5 := HSS.out w5 hb5'
      have gm5 := blk_below gm hb5'
      have gz5 := blk_below gz hb5'
      (try dsimp only)
      refine hK.out _ _ (.inr hS5) ?_
      clear hK K
      (try simp only [Act.put, List.setIfInBounds_toArray, List.set_cons_zero, List.set_cons_succ])
      by_cases hz : 0 < k
      ·
        refine wpAnyX_pure (i := 7) (oi := ⟨some 27, _, _, _, _, _⟩) (v := ?_) (by kernel_rfl) (by kernel_rfl) rfl (by kernel_rfl) (by kernel_rfl) (by kernel_rfl) (fun _ _ _ h => h) (Or.inl ⟨by rfl, ?_⟩) (by assumption) ?_
        rotate_left
        · intro w _; go_simp; (try (with_reducible rfl))
        (try simp only [Act.put, List.setIfInBounds_toArray, List.set_cons_zero, List.set_cons_succ])
        refine wpAnyX_done (by kernel_rfl) ?_ _
        obtain ⟨⟨q0, q1, q2, q3⟩, _⟩ := hS5
        obtain ⟨c0, c1, c2, c3⟩ := cv_cells gm5
        obtain ⟨f0, f1, f2, f3⟩ := cv_frozen gm5
        simp only at c0 c1 c2 c3
        clear hS0
        go_wp2
        have hset : (((w5.setCell ⟨w.heap.size + 1, 0, none⟩ (.int .i64 y0)).setCell ⟨w.heap.size + 1, 1, none⟩ (.bool y1)).setCell ⟨w.heap.size + 1, 2, none⟩ (.int .i64 y2)).setCell ⟨w.heap.size + 1, 3, none⟩ (.string y3) = set4 w5 (w.heap.size + 1) ⟨y0, y1, y2, y3⟩ := rfl
        rw [hset]
        go_roundw
        case rel =>
          refine ⟨i + 1, ⟨y0, y1, y2, y3⟩, by go_num, by omega, ?_, set4_at gm5, (set4_kpt _ _ _).at gz5 (by omega), set4_below hB5 (by have := hB5.size; omega) (by omega)⟩
          rw [HF.out, if_pos hz]
        case measure => simp [intOf]; omega
      ·
        refine wpAnyX_pure (i := 7) (oi := ⟨some 27, _, _, _, _, _⟩) (v := ?_) (by kernel_rfl) (by kernel_rfl) rfl (by kernel_rfl) (by kernel_rfl) (by kernel_rfl) (fun _ _ _ h => h) (Or.inl ⟨by rfl, ?_⟩) (by assumption) ?_
        rotate_left
        · intro w _; go_simp; (try (with_reducible rfl))
        (try simp only [Act.put, List.setIfInBounds_toArray, List.set_cons_zero, List.set_cons_succ])
        refine wpAnyX_done (by kernel_rfl) ?_ _
        clear hS5 hS0
        go_wp2
        go_roundw
        case rel =>
          refine ⟨i + 1, ⟨z0, z1, z2, z3⟩, by go_num, by omega, ?_, gm5, gz5, hB5⟩
          rw [HF.out, if_neg hz]
        case measure => simp [intOf]; omega
    · obtain rfl : i = n := by omega
      have hlz : ¬ (i : Int) < (i : Int) := by omega
      rw [HEND.out, maxV] at hf
      subst hf
      obtain ⟨c0, c1, c2, c3⟩ := cv_cells gm
      obtain ⟨d0, d1, d2, d3⟩ := cv_cells gz
      obtain ⟨f0, f1, f2, f3⟩ := cv_frozen gz
      obtain ⟨z0, z1, z2, z3⟩ := m
      simp only at c0 c1 c2 c3
      go_wp2
      refine bodyPost_ret (results_cell_row rfl _ _ w.heap.size 61 (cv ⟨z0, z1, z2, z3⟩) (0, 0) _ rfl (set4_at (v := ⟨z0, z1, z2, z3⟩) gz) Tryd.underlying61 rfl rfl) rfl ?_
      exact ⟨rfl, set4_below (v := ⟨z0, z1, z2, z3⟩) hB hB.size (Nat.le_refl _)⟩
end Go.Proofs.YtihdlalbgdighaaDoor.QV
/- The plain laws of exec.picked, hayloftref15.Pick, Project and Filter. -/
namespace Go.Proofs.YtihdlalbgdighaaDoor.QV
open Go.RowKit Go.Proofs.YtihdlalbgdighaaDoorW.PrintWords Go.Proofs.YtihdlalbgdighaaDoor.Op
set_option linter.unusedVariables false
set_option linter.unusedSimpArgs false
def pickS (x : Row) (cs : List Int) : Row := cs.map (atS x)
theorem picked_loop (x : Row) (cs : List Int) (hm : cs.length < 3518437208883) : ∀ (d i : Nat), i + d = cs.length → Ev (fun k => exec_picked.l0 k x (pickS x (cs.take i)) cs (cs.length : Int) (i : Int)) (pickS x cs) := by
  intro d
  induction d with
  | zero =>
    intro i hi
    refine Ev.step (f := fun _ => some (pickS x cs)) (fun k => ?_) (Ev.now _)
    simp only [exec_picked.l0]
    rw [if_neg (by omega), List.take_of_length_le (by omega)]
  | succ d ih =>
    intro i hi
    have hw : wrap64 ((i : Int) + 1) = ((i + 1 : Nat) : Int) := by unfold wrap64; omega
    have hra : rd cs (i : Int) = cs.getD i 0 := rfl
    have hts := take_snoc' (0 : Int) cs i (by omega)
    have hp : pickS x (cs.take i) ++ [atS x (cs.getD i 0)] = pickS x (cs.take (i + 1)) := by rw [← hts]; simp [pickS]
    have hl : (pickS x (cs.take i)).length = i := by simp [pickS]; omega
    refine Ev.step (fun k => ?_) (ih (i + 1) (by omega))
    simp only [exec_picked.l0, hra, hw, at_f, Option.bind_some]
    rw [if_pos (by omega), if_pos (by omega), if_pos (by omega), if_pos (by omega), ← hp]
theorem picked_f (x : Row) (cs : List Int) (hm : cs.length < 3518437208883) : ∃ k, exec_picked.f k x cs = some (pickS x cs) := by
  have h := picked_loop x cs hm cs.length 0 (by omega)
  exact h.rounds
end Go.Proofs.YtihdlalbgdighaaDoor.QV
/- Groups, in plain Lean: what exec.Group gathers, and what is told of a group; that it is the document's. -/
namespace Go.Proofs.YtihdlalbgdighaaDoor.QV
open Go.RowKit Go.Proofs.YtihdlalbgdighaaDoorW.PrintWords Go.Proofs.YtihdlalbgdighaaDoor.Op Go.Proofs.YtihdlalbgdighaaDoor.Stab
set_option linter.unusedVariables false
set_option linter.unusedSimpArgs false
abbrev Ag : Type := S99
abbrev Grp : Type := Row × List Row
def addG : List Grp → Row → Row → List Grp
  | [], k, r => [(k, [r])]
  | g :: G, k, r => if ordK g.1 k < 0 then g :: addG G k r else if ordK g.1 k = 0 then (g.1, g.2 ++ [r]) :: G else (k, [r]) :: g :: G
def insK : List Row → Row → List Row
  | [], k => [k]
  | h :: t, k => if ordK h k < 0 then h :: insK t k else if ordK h k = 0 then h :: t else k :: h :: t
theorem addG_keys : ∀ (G : List Grp) (k r : Row), (addG G k r).map (·.1) = insK (G.map (·.1)) k
  | [], _, _ => rfl
  | g :: G, k, r => by
    rw [addG, List.map_cons, insK]
    split
    · rw [List.map_cons, addG_keys G k r]
    · split <;> simp
def RiseK (K : List Row) : Prop := K.Pairwise (fun x y => ordK x y < 0)
theorem insK_mem : ∀ {K : List Row} {k x : Row}, x ∈ insK K k → x = k ∨ x ∈ K
  | [], k, x, h => by simp [insK] at h; exact .inl h
  | h0 :: t, k, x, h => by
    rw [insK] at h
    split at h
    · rcases List.mem_cons.1 h with h | h
      · exact .inr (by simp [h])
      · rcases insK_mem h with h | h
        · exact .inl h
        · exact .inr (by simp [h])
    · split at h
      · exact .inr h
      · rcases List.mem_cons.1 h with h | h
        · exact .inl h
        · exact .inr h
theorem insK_rise : ∀ {K : List Row} {k : Row}, RiseK K → RiseK (insK K k)
  | [], k, _ => by simp [insK, RiseK]
  | h0 :: t, k, h => by
    obtain ⟨h1, h2⟩ := List.pairwise_cons.1 h
    rw [insK]
    split
    · rename_i hlt
      refine List.pairwise_cons.2 ⟨fun y hy => ?_, insK_rise h2⟩
      rcases insK_mem hy with rfl | hy
      · exact hlt
      · exact h1 y hy
    · split
      · exact h
      · rename_i hn hz
        have hk : ordK k h0 < 0 := by
          have := preK.swap k h0; have := preK.swap h0 k; omega
        refine List.pairwise_cons.2 ⟨fun y hy => ?_, h⟩
        rcases List.mem_cons.1 hy with rfl | hy
        · exact hk
        · exact preK.lt_le hk (by have := h1 y hy; omega)
/-- Where the search stood. -/
theorem addG_at : ∀ (G : List Grp) (k r : Row) (i : Nat), i ≤ G.length → (∀ x ∈ G.take i, ordK x.1 k < 0) → (∀ x ∈ G.drop i, 0 ≤ ordK x.1 k) →
    addG G k r = if i < G.length ∧ ordK (G.getD i ([], [])).1 k = 0 then G.take i ++ ((G.getD i ([], [])).1, (G.getD i ([], [])).2 ++ [r]) :: G.drop (i + 1) else G.take i ++ (k, [r]) :: G.drop i
  | [], k, r, i, hi, _, _ => by
    obtain rfl : i = 0 := by simpa using hi
    simp [addG]
  | g :: G, k, r, 0, hi, h1, h2 => by
    have := h2 g (by simp)
    rw [addG, if_neg (by omega)]
    by_cases hz : ordK g.1 k = 0
    · simp [hz]
    · simp [hz]
  | g :: G, k, r, i + 1, hi, h1, h2 => by
    have hg := h1 g (by simp)
    rw [addG, if_pos hg, addG_at G k r i (by simpa using hi) (fun x hx => h1 x (by simp [hx])) (fun x hx => h2 x (by simpa using hx))]
    have e1 : (g :: G).getD (i + 1) ([], []) = G.getD i ([], []) := by simp [List.getD_eq_getElem?_getD]
    rw [e1]
    by_cases hc : i < G.length ∧ ordK (G.getD i ([], [])).1 k = 0
    · rw [if_pos hc, if_pos ⟨by simpa using hc.1, hc.2⟩]; simp
    · rw [if_neg hc, if_neg (fun h => hc ⟨by simpa using h.1, h.2⟩)]; simp
def startG (by' : List Int) : List Grp := if by' = [] then [([], [])] else []
def groupsL (by' : List Int) (rows : List Row) : List Grp := rows.foldl (fun G r => addG G (pickS r by') r) (startG by')
theorem groupsL_snoc (by' : List Int) (rows : List Row) (r : Row) : groupsL by' (rows ++ [r]) = addG (groupsL by' rows) (pickS r by') r := by simp [groupsL]
/-- Which rows are a group's. -/
def mineB (by' : List Int) (k : Row) (r : Row) : Bool := decide (ordK (pickS r by') k = 0)
structure GInv (by' : List Int) (rows : List Row) (G : List Grp) : Prop where
  rise : RiseK (G.map (·.1))
  mine : ∀ g ∈ G, g.2 = rows.filter (mineB by' g.1)
  cover : ∀ r ∈ rows, ∃ g ∈ G, ordK (pickS r by') g.1 = 0
theorem ordK_zero_comm {a b : Row} (h : ordK a b = 0) : ordK b a = 0 := by
  have := preK.swap a b; have := preK.swap b a; omega
theorem ordK_zero_trans {a b c : Row} (h : ordK a b = 0) (h2 : ordK b c = 0) : ordK a c = 0 := by
  have := preK.trans a b c (by omega) (by omega)
  have h3 := ordK_zero_comm h; have h4 := ordK_zero_comm h2
  have := preK.trans c b a (by omega) (by omega)
  have := preK.swap a c; have := preK.swap c a
  omega
theorem addG_inv {by' : List Int} : ∀ {G : List Grp} {rows : List Row} {r : Row}, RiseK (G.map (·.1)) → (∀ g ∈ G, g.2 = rows.filter (mineB by' g.1)) → (∀ x ∈ rows, ordK (pickS x by') (pickS r by') = 0 → ∃ g ∈ G, ordK (pickS x by') g.1 = 0) →
    (∀ g ∈ addG G (pickS r by') r, g.2 = (rows ++ [r]).filter (mineB by' g.1)) ∧ (∃ g ∈ addG G (pickS r by') r, ordK (pickS r by') g.1 = 0) ∧ (∀ g ∈ G, ∃ g' ∈ addG G (pickS r by') r, g'.1 = g.1)
  | [], rows, r, _, _, hc => by
    have hself : ordK (pickS r by') (pickS r by') = 0 := by have := preK.swap (pickS r by') (pickS r by'); omega
    refine ⟨fun g hg => ?_, ⟨(pickS r by', [r]), by simp [addG], hself⟩, by simp⟩
    simp only [addG, List.mem_singleton] at hg
    subst hg
    rw [List.filter_append]
    have h1 : rows.filter (mineB by' (pickS r by')) = [] := by
      rw [List.filter_eq_nil_iff]
      intro x hx hm
      obtain ⟨g, hg, _⟩ := hc x hx (of_decide_eq_true hm)
      simp at hg
    simp only [h1, List.nil_append]
    rw [List.filter_cons, if_pos (by simp [mineB, hself])]
    rfl
  | g0 :: G, rows, r, hr, hm, hc => by
    obtain ⟨k1, k2⟩ := List.pairwise_cons.1 hr
    have hself : ordK (pickS r by') (pickS r by') = 0 := by have := preK.swap (pickS r by') (pickS r by'); omega
    have hskip : ∀ g : Grp, ordK (pickS r by') g.1 ≠ 0 → g.2 = rows.filter (mineB by' g.1) → g.2 = (rows ++ [r]).filter (mineB by' g.1) := by
      intro g h0 h
      rw [List.filter_append, List.filter_cons, if_neg (by simpa [mineB] using h0), List.filter_nil, List.append_nil]
      exact h
    rw [addG]
    by_cases hlt : ordK g0.1 (pickS r by') < 0
    · rw [if_pos hlt]
      have hne : ordK (pickS r by') g0.1 ≠ 0 := fun h => by have := ordK_zero_comm h; omega
      obtain ⟨i1, i2, i3⟩ := addG_inv (G := G) (rows := rows) (r := r) (by' := by') k2 (fun g hg => hm g (by simp [hg])) (fun x hx h => by
        obtain ⟨g, hg, hz⟩ := hc x hx h
        rcases List.mem_cons.1 hg with rfl | hg
        · exact absurd (ordK_zero_trans (ordK_zero_comm h) hz) hne
        · exact ⟨g, hg, hz⟩)
      refine ⟨fun g hg => ?_, ?_, fun g hg => ?_⟩
      · rcases List.mem_cons.1 hg with rfl | hg
        · exact hskip _ hne (hm _ (by simp))
        · exact i1 g hg
      · obtain ⟨g, hg, h⟩ := i2
        exact ⟨g, by simp [hg], h⟩
      · rcases List.mem_cons.1 hg with rfl | hg
        · exact ⟨g, by simp, rfl⟩
        · obtain ⟨g', hg', e⟩ := i3 g hg
          exact ⟨g', by simp [hg'], e⟩
    · rw [if_neg hlt]
      have hrest : ∀ g ∈ G, ordK (pickS r by') g.1 ≠ 0 := by
        intro g hg h
        have h1 := k1 g.1 (List.mem_map_of_mem hg)
        have := preK.lt_le h1 (by have := ordK_zero_comm h; omega : ordK g.1 (pickS r by') ≤ 0)
        exact hlt this
      by_cases hz : ordK g0.1 (pickS r by') = 0
      · rw [if_pos hz]
        refine ⟨fun g hg => ?_, ⟨_, List.mem_cons_self, ordK_zero_comm hz⟩, fun g hg => ?_⟩
        · rcases List.mem_cons.1 hg with rfl | hg
          · rw [List.filter_append, List.filter_cons, if_pos (by simp [mineB, ordK_zero_comm hz]), List.filter_nil, ← hm g0 (by simp)]
          · exact hskip _ (hrest g hg) (hm g (by simp [hg]))
        · rcases List.mem_cons.1 hg with rfl | hg
          · exact ⟨_, List.mem_cons_self, rfl⟩
          · exact ⟨g, by simp [hg], rfl⟩
      · rw [if_neg hz]
        refine ⟨fun g hg => ?_, ⟨_, List.mem_cons_self, hself⟩, fun g hg => ⟨g, by simp [hg], rfl⟩⟩
        rcases List.mem_cons.1 hg with rfl | hg
        · rw [List.filter_append]
          have h1 : rows.filter (mineB by' (pickS r by')) = [] := by
            rw [List.filter_eq_nil_iff]
            intro x hx hmm
            have hxz : ordK (pickS x by') (pickS r by') = 0 := of_decide_eq_true hmm
            obtain ⟨g, hg, h⟩ := hc x hx hxz
            have h9 := ordK_zero_trans (ordK_zero_comm hxz) h
            rcases List.mem_cons.1 hg with rfl | hg
            · exact hz (ordK_zero_comm h9)
            · exact hrest g hg h9
          simp only [h1, List.nil_append]
          rw [List.filter_cons, if_pos (by simp [mineB, hself])]
          rfl
        · rcases List.mem_cons.1 hg with rfl | hg
          · exact hskip _ (fun h => hz (ordK_zero_comm h)) (hm _ (by simp))
          · exact hskip _ (hrest g hg) (hm g (by simp [hg]))
theorem GInv.add {by' : List Int} {rows : List Row} {G : List Grp} {r : Row} (h : GInv by' rows G) : GInv by' (rows ++ [r]) (addG G (pickS r by') r) := by
  obtain ⟨h1, h2, h3⟩ := addG_inv (r := r) h.rise h.mine (fun x hx _ => h.cover x hx)
  refine ⟨by rw [addG_keys]; exact insK_rise h.rise, h1, fun x hx => ?_⟩
  rcases List.mem_append.1 hx with hx | hx
  · obtain ⟨g, hg, hz⟩ := h.cover x hx
    obtain ⟨g', hg', e⟩ := h3 g hg
    exact ⟨g', hg', by rw [e]; exact hz⟩
  · rw [List.mem_singleton.1 hx]; exact h2
theorem groupsL_inv (by' : List Int) : ∀ (pre : List Row), GInv by' pre (groupsL by' pre) := by
  intro pre
  have gen : ∀ (l pre : List Row) (G : List Grp), GInv by' pre G → GInv by' (pre ++ l) (l.foldl (fun G r => addG G (pickS r by') r) G) := by
    intro l
    induction l with
    | nil => intro pre G h; simpa using h
    | cons r l ih =>
      intro pre G h
      have := ih (pre ++ [r]) _ (h.add (r := r))
      simpa using this
  have h0 : GInv by' [] (startG by') := by
    unfold startG
    split
    · exact ⟨by simp [RiseK], by simp, by simp⟩
    · exact ⟨by simp [RiseK], by simp, by simp⟩
  simpa [groupsL] using gen pre [] _ h0
theorem groupsL_len (by' : List Int) (rows : List Row) : (groupsL by' rows).length ≤ rows.length + 1 := by
  have gen : ∀ (l : List Row) (G : List Grp), (l.foldl (fun G r => addG G (pickS r by') r) G).length ≤ G.length + l.length := by
    intro l
    induction l with
    | nil => intro G; simp
    | cons r l ih =>
      intro G
      have h := ih (addG G (pickS r by') r)
      have hl : ∀ (G : List Grp) (k r : Row), (addG G k r).length ≤ G.length + 1 := by
        intro G
        induction G with
        | nil => intro k r; simp [addG]
        | cons g G ih =>
          intro k r
          rw [addG]
          split
          · have := ih k r; simp; omega
          · split <;> simp
      have := hl G (pickS r by') r
      simp only [List.foldl_cons, List.length_cons]
      omega
  have h := gen rows (startG by')
  have h0 : (startG by').length ≤ 1 := by unfold startG; split <;> simp
  unfold groupsL
  omega
theorem addG_klen (n : Nat) : ∀ (G : List Grp) (k r : Row), k.length = n → (∀ g ∈ G, g.1.length = n) → ∀ g ∈ addG G k r, g.1.length = n
  | [], k, r, hk, _, g, hg => by simp only [addG, List.mem_singleton] at hg; rw [hg]; exact hk
  | g0 :: G, k, r, hk, h, g, hg => by
    rw [addG] at hg
    split at hg
    · rcases List.mem_cons.1 hg with rfl | hg
      · exact h _ (by simp)
      · exact addG_klen n G k r hk (fun x hx => h x (by simp [hx])) g hg
    · split at hg
      · rcases List.mem_cons.1 hg with rfl | hg
        · exact h g0 (by simp)
        · exact h g (by simp [hg])
      · rcases List.mem_cons.1 hg with rfl | hg
        · exact hk
        · exact h g hg
theorem groupsL_klen (by' : List Int) (rows : List Row) : ∀ g ∈ groupsL by' rows, g.1.length = by'.length := by
  have gen : ∀ (l : List Row) (G : List Grp), (∀ g ∈ G, g.1.length = by'.length) → ∀ g ∈ l.foldl (fun G r => addG G (pickS r by') r) G, g.1.length = by'.length := by
    intro l
    induction l with
    | nil => intro G h; exact h
    | cons r l ih => intro G h; exact ih _ (addG_klen _ G _ r (by simp [pickS]) h)
  refine gen rows _ (fun g hg => ?_)
  unfold startG at hg
  split at hg
  · rename_i e
    rw [List.mem_singleton.1 hg, e]; rfl
  · simp at hg
/-! what is told of a group -/
def numV (n : Int) : S' := ⟨2, false, n, ⟨#[]⟩⟩
def seenB (a : Ag) (v : S') : Bool := v.f0 != 0 && (a.f0 != 1 || v.f0 == 2)
def seenL (a : Ag) (rows : List Row) : List S' := (rows.map (fun r => atS r a.f1)).filter (seenB a)
def sumV (n : Int) (l : List S') : Int := l.foldl (fun n v => wrap64 (n + v.f2)) n
def toldS (a : Ag) (rows : List Row) : S' :=
  if a.f0 = 0 then numV rows.length else
    match seenL a rows with
    | [] => zV
    | x :: l => if a.f0 < 0 then zV else if 3 < a.f0 then zV else if a.f0 = 2 then minV x l else if a.f0 = 3 then maxV x l else numV (sumV 0 (x :: l))
def groupL (by' : List Int) (aggs : List Ag) (rows : List Row) : List Row := (groupsL by' rows).map (fun g => g.1 ++ aggs.map (fun a => toldS a g.2))
end Go.Proofs.YtihdlalbgdighaaDoor.QV
/- The groups that exec.Group gathers, in memory: which blocks are whose (o: 0 the box, 1 the groups' row, 2 the keys, a group's tag: its rows). -/
namespace Go.Proofs.YtihdlalbgdighaaDoor.QV
open Go.RowKit Go.Proofs.YtihdlalbgdighaaDoorW.PrintWords Go.Proofs.YtihdlalbgdighaaDoor.Seq Go.Shelf Go.Proofs.YtihdlalbgdighaaDoor.Op Go.Proofs.YtihdlalbgdighaaDoor.Stab
set_option linter.unusedVariables false
set_option linter.unusedSimpArgs false
theorem GA.step {W V : World} {base : Nat} {v : Value} {a : List Raw} (h : GA W base v a) (hk : ∀ k, v.ownBlock = some k → V.heap[k]? = W.heap[k]?) : GA V base v a := by
  obtain ⟨⟨h0, h1⟩, h2⟩ := h
  refine ⟨⟨h0, ?_⟩, h2⟩
  rcases h1 with h | ⟨g, cap, cur, hv, hgb, hg, r⟩
  · exact .inl h
  · exact .inr ⟨g, cap, cur, hv, hgb, by rw [hk g (by rw [hv]; rfl)]; exact hg, r⟩
theorem fl_set1 : ∀ (a : List Raw) (i : Nat) (u : Value), i < a.length → (fl a).set (i * 2 + 1) u = fl (a.set i ((a.getD i (.nilFunc, .nilFunc)).1, u))
  | [], i, u, h => by simp at h
  | x :: a, 0, u, _ => by simp [fl]
  | x :: a, i + 1, u, h => by
    have e : (x :: a).getD (i + 1) (.nilFunc, .nilFunc) = a.getD i (.nilFunc, .nilFunc) := by simp [List.getD_eq_getElem?_getD]
    rw [e, Nat.succ_mul, show i * 2 + 2 + 1 = (i * 2 + 1) + 1 + 1 by omega]
    simp [fl, fl_set1 a i u (by simpa using h)]
/-- The second cell of element i stored. -/
theorem GA.set1 {W : World} {base gb n cap : Nat} {a : List Raw} (h : GA W base (.slice (some ⟨gb, 0, none⟩) n cap) a) (i : Nat) (hi : i < a.length) (u : Value) (hu : u.oneCell' = true) :
    GA (W.setCell ⟨gb, i * 2 + 1, none⟩ u) base (.slice (some ⟨gb, 0, none⟩) n cap) (a.set i ((a.getD i (.nilFunc, .nilFunc)).1, u)) := by
  obtain ⟨⟨h0, h1⟩, h2⟩ := h
  have hx : One (a.getD i (.nilFunc, .nilFunc)) := h2 _ (getD_mem _ hi)
  refine ⟨⟨by rw [fl_length], ?_⟩, fun x hx' => ?_⟩
  · rcases h1 with h | ⟨g, cap', cur, hv, hgb, hg, h3, h4, h5, h6⟩
    · have := h.2; omega
    · injection hv with e1 e2 e3
      injection e1 with e1
      injection e1 with e1
      subst e1
      refine .inr ⟨gb, cap', cur.setIfInBounds (i * 2 + 1) u, by rw [List.length_set, ← e3, ← e2], hgb, blk_set hg (i * 2 + 1) u, by rw [List.length_set]; exact h3, h4, by simpa using h5, ?_⟩
      rw [List.length_set, Array.toList_setIfInBounds, List.take_set, h6, fl_set1 a i u hi]
  · rcases List.mem_or_eq_of_mem_set hx' with h | h
    · exact h2 x h
    · rw [h]; exact ⟨hx.1, hu⟩
structure GSt (b0 : Nat) (G : List GE) (gv : Value) (o : Nat → Nat) (M : Nat → Prop) (A : World) : Prop where
  box : A.heap[b0]? = some (.cells #[gv] 113 (0, 0))
  mb : M b0
  ob : o b0 = 0
  ga : GA A b0 gv (G.map GE.raw)
  gown : ∀ k, gv.ownBlock = some k → M k ∧ o k = 1
  tag3 : ∀ g ∈ G, 3 ≤ g.tag
  tags : G.Pairwise (fun a b => a.tag ≠ b.tag)
  keys : ∀ g ∈ G, kS.R tS A b0 (fun k => M k ∧ o k = 2) (.slice g.ka g.key.length g.kc) g.key
  rows : ∀ g ∈ G, kRows.R tRow A b0 (fun k => M k ∧ o k = g.tag) (.slice g.ra g.rows.length g.rc) g.rows
  mlt : ∀ k, M k → b0 ≤ k ∧ k < A.heap.size
section
variable {b0 : Nat} {G : List GE} {gv : Value} {o : Nat → Nat} {M : Nat → Prop} {A B C D : World}
theorem GSt.kept (h : GSt b0 G gv o M A) (hs : A.heap.size ≤ B.heap.size) (hk : ∀ k, M k → B.heap[k]? = A.heap[k]?) : GSt b0 G gv o M B :=
  ⟨by rw [hk _ h.mb]; exact h.box, h.mb, h.ob, h.ga.step (fun k e => hk k (h.gown k e).1), h.gown, h.tag3, h.tags, fun g hg => Kd.R_move (h.keys g hg) (fun k e => hk k e.1), fun g hg => Kd.R_move (h.rows g hg) (fun k e => hk k e.1), fun k e => ⟨(h.mlt k e).1, Nat.lt_of_lt_of_le (h.mlt k e).2 hs⟩⟩
theorem GSt.below (h : GSt b0 G gv o M A) (hb : Below A.heap.size A B) : GSt b0 G gv o M B := h.kept hb.size (fun k e => hb.block k (h.mlt k e).2)
theorem GSt.slice (h : GSt b0 G gv o M A) : ∃ Ad c, gv = .slice Ad G.length c ∧ G.length ≤ c := by
  obtain ⟨Ad, c, e⟩ := own_slice h.ga.1
  have := own_le (by rw [e] at h; exact h.ga.1)
  rw [List.length_map] at e this
  exact ⟨Ad, c, e, this⟩
theorem GSt.keyOk (h : GSt b0 G gv o M A) : ∀ g ∈ G, KeyOk A g := fun g hg => ⟨(Kd.R_reads' (h.keys g hg)).2.1, (Kd.R_reads' (h.keys g hg)).2.2⟩
theorem GSt.form (h : GSt b0 G gv o M A) (hp : 0 < G.length) : ∃ gb c cur, gv = .slice (some ⟨gb, 0, none⟩) G.length c ∧ G.length ≤ c ∧ A.heap[gb]? = some (.cells cur tG (0, 0)) ∧ cur.size = c * 2 ∧ ∀ i, i < G.length → cur[i * 2]? = some (G.getD i zGE).raw.1 ∧ cur[i * 2 + 1]? = some (G.getD i zGE).raw.2 := by
  obtain ⟨⟨h0, h1⟩, h2⟩ := h.ga
  rcases h1 with h | ⟨g, cap, cur, hv, hgb, hg, h3, h4, h5, h6⟩
  · have := h.2; rw [List.length_map] at this; omega
  · rw [List.length_map] at hv h3 h6
    refine ⟨g, cap, cur, hv, h3, hg, h5, fun i hi => ?_⟩
    have e0 := fl_at0 (G.map GE.raw) i
    have e1 := fl_at1 (G.map GE.raw) i
    rw [← h6, List.getElem?_take, List.getElem?_map, List.getElem?_eq_getElem hi] at e0 e1
    rw [if_pos (by omega), Array.getElem?_toList] at e0 e1
    rw [List.getD_eq_getElem?_getD, List.getElem?_eq_getElem hi]
    exact ⟨e0, e1⟩
theorem GSt.cells (h : GSt b0 G gv o M A) {Ad : Option Addr} {n c : Nat} (e : gv = .slice Ad n c) : CellsG A Ad G := by
  intro i hi
  obtain ⟨gb, c', cur, hv, _, hg, _, hc⟩ := h.form (by omega)
  rw [e] at hv
  injection hv with hv
  refine ⟨_, hv, ?_, ?_⟩
  · rw [add_plain, blk_cell hg]; exact (hc i hi).1
  · rw [add_plain]
    show A.cell? ⟨gb, i * 2 + 1, none⟩ = _
    rw [blk_cell hg]; exact (hc i hi).2
theorem fresh_tag (G : List GE) : ∃ t, 3 ≤ t ∧ ∀ g ∈ G, g.tag ≠ t := by
  have : ∃ t, 3 ≤ t ∧ ∀ g ∈ G, g.tag < t := by
    induction G with
    | nil => exact ⟨3, Nat.le_refl _, by simp⟩
    | cons g G ih =>
      obtain ⟨t, h3, h⟩ := ih
      refine ⟨max t (g.tag + 1), by omega, fun x hx => ?_⟩
      rcases List.mem_cons.1 hx with rfl | hx
      · omega
      · have := h x hx; omega
  obtain ⟨t, h3, h⟩ := this
  exact ⟨t, h3, fun g hg => by have := h g hg; omega⟩
/-- A new group laid in at place i. -/
theorem GSt.insert (h : GSt b0 G gv o M A) (hAB : Below A.heap.size A B) (i : Nat) (k : Row) (KB : Option Addr) (kc : Nat) (v' : Value) (t : Nat) (ht3 : 3 ≤ t) (ht : ∀ g ∈ G, g.tag ≠ t)
    (hk : kS.R tS B A.heap.size (fun _ => True) (.slice KB k.length kc) k) (hG : GA C b0 v' ((G.map GE.raw).take i ++ (.slice KB k.length kc, .slice none 0 0) :: (G.map GE.raw).drop i))
    (hg : B.grownBy C gv.ownBlock) (hv : v'.ownBlock = gv.ownBlock ∨ ∃ b, v'.ownBlock = some b ∧ B.heap.size ≤ b) :
    GSt b0 (G.take i ++ ⟨k, [], KB, kc, none, 0, t⟩ :: G.drop i) v' (fun j => if j < A.heap.size then o j else if j < B.heap.size then 2 else 1) (fun j => (M j ∨ A.heap.size ≤ j) ∧ j < (C.setCell ⟨b0, 0, none⟩ v').heap.size) (C.setCell ⟨b0, 0, none⟩ v') ∧ Seq.Kpt M A (C.setCell ⟨b0, 0, none⟩ v') := by
  have hsB := hAB.size
  have hsC := hg.size
  obtain ⟨D, hD⟩ : ∃ D, C.setCell ⟨b0, 0, none⟩ v' = D := ⟨_, rfl⟩
  have hkD : Seq.Kpt (fun i => i = b0) C D := by rw [← hD]; exact Seq.Kpt.setCell C ⟨b0, 0, none⟩ _
  have hb0 := h.mlt b0 h.mb
  have hsD := hkD.size
  have hgo := h.gown
  have hbx : C.heap[b0]? = some (.cells #[gv] 113 (0, 0)) := by
    rw [hg.block b0 (by omega) (fun e => by have := (hgo b0 e.symm).2; have := h.ob; omega), hAB.block b0 hb0.2]
    exact h.box
  have keep : ∀ j, j < A.heap.size → j ≠ b0 → o j ≠ 1 → D.heap[j]? = A.heap[j]? := fun j hj h1 h2 => by
    rw [hkD.block j (by omega) h1, hg.block j (by omega) (fun e => h2 (hgo j e.symm).2), hAB.block j hj]
  have hmlt := h.mlt
  rw [hD]
  have hbD : D.heap[b0]? = some (.cells #[v'] 113 (0, 0)) := by
    rw [← hD]; simpa using blk_set hbx 0 v'
  have hvown : ∀ j, v'.ownBlock = some j → j ≠ b0 ∧ ((M j ∧ o j = 1) ∨ B.heap.size ≤ j) := fun j e => by
    rcases hv with hv | ⟨b, hv, hb⟩
    · have := hgo j (by rw [← hv]; exact e)
      exact ⟨fun e0 => by have h0 := h.ob; rw [e0] at this; omega, .inl this⟩
    · rw [hv] at e
      injection e with e
      subst e
      exact ⟨by omega, .inr hb⟩
  have hGD : GA D b0 v' ((G.map GE.raw).take i ++ (.slice KB k.length kc, .slice none 0 0) :: (G.map GE.raw).drop i) := hG.step (fun j e => hkD.block j (by
      have hl := (show j < C.heap.size from by
        rcases hG.1.2 with hh | ⟨g, cap, cur, hv2, _, hgg, _⟩
        · rw [hh.1] at e; simp [Value.ownBlock] at e
        · rw [hv2] at e
          have : g = j := by simpa [Value.ownBlock] using e
          rw [← this]; exact blk_lt hgg)
      exact hl) (hvown j e).1)
  have hvlt : ∀ j, v'.ownBlock = some j → j < D.heap.size := fun j e => by
    rcases hGD.1.2 with hh | ⟨g, cap, cur, hv2, _, hgg, _⟩
    · rw [hh.1] at e; simp [Value.ownBlock] at e
    · rw [hv2] at e
      have : g = j := by simpa [Value.ownBlock] using e
      rw [← this]; exact blk_lt hgg
  have hKpt : Seq.Kpt M A D := ((Seq.Kpt.of_new M hAB).trans (Seq.Kpt.grown hg) (M := M) (fun j hj e => by
      rcases e with e | e
      · exact e
      · exact (hgo j e.symm).1)).trans hkD (fun j hj e => by
      rcases e with e | e
      · exact e
      · rw [e]; exact h.mb)
  refine ⟨⟨hbD, ⟨.inl h.mb, by omega⟩, ?_, ?_, fun j e => ?_, ?_, ?_, ?_, ?_, fun j e => ⟨?_, e.2⟩⟩, hKpt⟩
  · show (if b0 < A.heap.size then o b0 else _) = 0
    rw [if_pos hb0.2]; exact h.ob
  · simpa [List.map_take, List.map_drop, GE.raw] using hGD
  · have h1 := hvown j e
    refine ⟨⟨?_, hvlt j e⟩, ?_⟩
    · rcases h1.2 with z | z
      · exact .inl z.1
      · exact .inr (by omega)
    · show (if j < A.heap.size then o j else if j < B.heap.size then 2 else 1) = 1
      rcases h1.2 with z | z
      · rw [if_pos (hmlt j z.1).2]; exact z.2
      · rw [if_neg (by omega), if_neg (by omega)]
  · intro g hg'
    rcases List.mem_append.1 hg' with z | z
    · exact h.tag3 g (List.mem_of_mem_take z)
    · rcases List.mem_cons.1 z with rfl | z
      · exact ht3
      · exact h.tag3 g (List.mem_of_mem_drop z)
  · have hp := h.tags
    rw [← List.take_append_drop i G] at hp
    obtain ⟨p1, p2, p3⟩ := List.pairwise_append.1 hp
    refine List.pairwise_append.2 ⟨p1, List.pairwise_cons.2 ⟨fun g hg' e => ht g (List.mem_of_mem_drop hg') e.symm, p2⟩, fun a ha b hb => ?_⟩
    rcases List.mem_cons.1 hb with rfl | hb
    · exact ht a (List.mem_of_mem_take ha)
    · exact p3 a ha b hb
  · have old : ∀ g ∈ G, kS.R tS D b0 (fun j => ((M j ∨ A.heap.size ≤ j) ∧ j < D.heap.size) ∧ (if j < A.heap.size then o j else if j < B.heap.size then 2 else 1) = 2) (.slice g.ka g.key.length g.kc) g.key := fun g hg' =>
      Kd.R_mono (Kd.R_move (h.keys g hg') (fun j e => keep j (hmlt j e.1).2 (fun e0 => by have := h.ob; rw [e0] at e; omega) (by omega))) (fun j e => ⟨⟨.inl e.1, by have := (hmlt j e.1).2; omega⟩, by rw [if_pos (hmlt j e.1).2]; exact e.2⟩)
    intro g hg'
    rcases List.mem_append.1 hg' with z | z
    · exact old g (List.mem_of_mem_take z)
    · rcases List.mem_cons.1 z with rfl | z
      · show kS.R tS D b0 _ (.slice KB k.length kc) k
        refine Kd.R_mono (Kd.R_lower (Kd.R_move (Kd.R_bound hk) (fun j e => ?_)) (by omega)) (fun j e => ⟨⟨.inr e.2.1, by have := e.2.2.1; omega⟩, by rw [if_neg (by have := e.2.1; omega), if_pos e.2.2.1]⟩)
        have e1 := e.2.1
        have e2 := e.2.2.1
        rw [hkD.block j (by omega) (by omega), hg.block j e2 (fun e0 => by have := (hmlt j (hgo j e0.symm).1).2; omega)]
      · exact old g (List.mem_of_mem_drop z)
  · have old : ∀ g ∈ G, kRows.R tRow D b0 (fun j => ((M j ∨ A.heap.size ≤ j) ∧ j < D.heap.size) ∧ (if j < A.heap.size then o j else if j < B.heap.size then 2 else 1) = g.tag) (.slice g.ra g.rows.length g.rc) g.rows := fun g hg' =>
      have h3 := h.tag3 g hg'
      Kd.R_mono (Kd.R_move (h.rows g hg') (fun j e => keep j (hmlt j e.1).2 (fun e0 => by have := h.ob; rw [e0] at e; omega) (by omega))) (fun j e => ⟨⟨.inl e.1, by have := (hmlt j e.1).2; omega⟩, by rw [if_pos (hmlt j e.1).2]; exact e.2⟩)
    intro g hg'
    rcases List.mem_append.1 hg' with z | z
    · exact old g (List.mem_of_mem_take z)
    · rcases List.mem_cons.1 z with rfl | z
      · exact Kd.R_nil _ _ _ _ _
      · exact old g (List.mem_of_mem_drop z)
  · rcases e.1 with z | z
    · exact (hmlt j z).1
    · omega
/-- One more row behind those of group i. -/
theorem GSt.append (h : GSt b0 G gv o M A) (hAB : Below A.heap.size A B) (i : Nat) (hi : i < G.length) (x : Row) (ra : Option Addr) (rc gb c : Nat) (hgv : gv = .slice (some ⟨gb, 0, none⟩) G.length c)
    (hv : kRows.R tRow C b0 (fun j => (M j ∧ o j = (G.getD i zGE).tag) ∨ A.heap.size ≤ j) (.slice ra ((G.getD i zGE).rows ++ [x]).length rc) ((G.getD i zGE).rows ++ [x]))
    (hg : B.grownBy C (Value.slice (G.getD i zGE).ra (G.getD i zGE).rows.length (G.getD i zGE).rc).ownBlock) :
    ∃ g', g'.key = (G.getD i zGE).key ∧ g'.rows = (G.getD i zGE).rows ++ [x] ∧
    GSt b0 (G.set i g') gv (fun j => if j < A.heap.size then o j else (G.getD i zGE).tag) (fun j => (M j ∨ A.heap.size ≤ j) ∧ j < (C.setCell ⟨gb, i * 2 + 1, none⟩ (.slice ra ((G.getD i zGE).rows ++ [x]).length rc)).heap.size) (C.setCell ⟨gb, i * 2 + 1, none⟩ (.slice ra ((G.getD i zGE).rows ++ [x]).length rc)) ∧
    Seq.Kpt M A (C.setCell ⟨gb, i * 2 + 1, none⟩ (.slice ra ((G.getD i zGE).rows ++ [x]).length rc)) := by
  obtain ⟨g0, hg0⟩ : ∃ g0, G.getD i zGE = g0 := ⟨_, rfl⟩
  have hmem : g0 ∈ G := by rw [← hg0]; exact getD_mem _ hi
  have hget : G[i]? = some g0 := by rw [← hg0, List.getD_eq_getElem?_getD, List.getElem?_eq_getElem hi]; rfl
  rw [hg0] at hv hg ⊢
  have hsB := hAB.size
  have hsC := hg.size
  obtain ⟨u, hu⟩ : ∃ u, Value.slice ra (g0.rows ++ [x]).length rc = u := ⟨_, rfl⟩
  obtain ⟨D, hD⟩ : ∃ D, C.setCell ⟨gb, i * 2 + 1, none⟩ u = D := ⟨_, rfl⟩
  have hkD : Seq.Kpt (fun i => i = gb) C D := by rw [← hD]; exact Seq.Kpt.setCell C ⟨gb, i * 2 + 1, none⟩ _
  have hb0 := h.mlt b0 h.mb
  have hsD := hkD.size
  have hgbM := h.gown gb (by rw [hgv]; rfl)
  have hmlt := h.mlt
  have hgbl := hmlt gb hgbM.1
  have ht3 := h.tag3 g0 hmem
  have hro : ∀ j, (Value.slice g0.ra g0.rows.length g0.rc).ownBlock = some j → M j ∧ o j = g0.tag := (h.rows g0 hmem).1
  have keep : ∀ j, M j → j ≠ gb → o j ≠ g0.tag → D.heap[j]? = A.heap[j]? := fun j hj h1 h2 => by
    have := (hmlt j hj).2
    rw [hkD.block j (by omega) h1, hg.block j (by omega) (fun e => h2 (hro j e.symm).2), hAB.block j this]
  rw [hu] at hv ⊢
  have hgaC : GA C b0 gv (G.map GE.raw) := h.ga.step (fun j e => by
    have h1 := h.gown j e
    have h2 := (hmlt j h1.1).2
    rw [hg.block j (by omega) (fun e0 => by have := (hro j e0.symm).2; omega), hAB.block j h2])
  rw [hgv] at hgaC
  have hu1 : u.oneCell' = true := by rw [← hu]; rfl
  have hgaD := hgaC.set1 i (by rw [List.length_map]; exact hi) u hu1
  rw [hD] at hgaD
  rw [hD]
  have hrawi : ((G.map GE.raw).getD i (.nilFunc, .nilFunc)) = g0.raw := by
    rw [List.getD_eq_getElem?_getD, List.getElem?_map, hget]; rfl
  rw [hrawi] at hgaD
  refine ⟨⟨g0.key, g0.rows ++ [x], g0.ka, g0.kc, ra, rc, g0.tag⟩, rfl, rfl, ⟨?_, ⟨.inl h.mb, by omega⟩, ?_, ?_, fun j e => ?_, ?_, ?_, ?_, ?_, fun j e => ⟨?_, e.2⟩⟩, ?_⟩
  · have hne : b0 ≠ gb := fun e => by have h0 := h.ob; rw [e] at h0; omega
    rw [keep b0 h.mb hne (by have := h.ob; omega)]; exact h.box
  · show (if b0 < A.heap.size then o b0 else _) = 0
    rw [if_pos hb0.2]; exact h.ob
  · rw [hgv, List.map_set]
    have : (GE.mk g0.key (g0.rows ++ [x]) g0.ka g0.kc ra rc g0.tag).raw = (g0.raw.1, u) := by rw [← hu]; rfl
    rw [this]; exact hgaD
  · have h1 := h.gown j e
    exact ⟨⟨.inl h1.1, by have := (hmlt j h1.1).2; omega⟩, by rw [if_pos (hmlt j h1.1).2]; exact h1.2⟩
  · intro g hg'
    rcases List.mem_or_eq_of_mem_set hg' with z | z
    · exact h.tag3 g z
    · rw [z]; exact ht3
  · rw [List.pairwise_iff_getElem]
    have hp := List.pairwise_iff_getElem.1 h.tags
    intro p q hp1 hq1 hpq
    have hp' : p < G.length := by simpa using hp1
    have hq' : q < G.length := by simpa using hq1
    have tg : ∀ (m : Nat) (hm : m < G.length) (hm' : m < (G.set i ⟨g0.key, g0.rows ++ [x], g0.ka, g0.kc, ra, rc, g0.tag⟩).length), ((G.set i ⟨g0.key, g0.rows ++ [x], g0.ka, g0.kc, ra, rc, g0.tag⟩)[m]).tag = (G[m]).tag := fun m hm hm' => by
      rw [List.getElem_set]
      split
      · rename_i e
        subst e
        have : G[i] = g0 := by rw [List.getElem?_eq_getElem hi] at hget; exact Option.some.inj hget
        rw [this]
      · rfl
    rw [tg p hp' hp1, tg q hq' hq1]
    exact hp p q hp' hq' hpq
  · have old : ∀ g ∈ G, kS.R tS D b0 (fun j => ((M j ∨ A.heap.size ≤ j) ∧ j < D.heap.size) ∧ (if j < A.heap.size then o j else g0.tag) = 2) (.slice g.ka g.key.length g.kc) g.key := fun g hg' =>
      Kd.R_mono (Kd.R_move (h.keys g hg') (fun j e => keep j e.1 (fun e0 => by have h1 := hgbM.2; rw [← e0] at h1; omega) (by omega))) (fun j e => ⟨⟨.inl e.1, by have := (hmlt j e.1).2; omega⟩, by rw [if_pos (hmlt j e.1).2]; exact e.2⟩)
    intro g hg'
    rcases List.mem_or_eq_of_mem_set hg' with z | z
    · exact old g z
    · rw [z]; exact old g0 hmem
  · intro g hg'
    rw [List.mem_iff_getElem] at hg'
    obtain ⟨m, hm, rfl⟩ := hg'
    have hmG : m < G.length := by simpa using hm
    rw [List.getElem_set]
    split
    · rename_i e
      show kRows.R tRow D b0 _ (.slice ra (g0.rows ++ [x]).length rc) (g0.rows ++ [x])
      rw [hu]
      refine Kd.R_mono (Kd.R_move (Kd.R_bound hv) (fun j e => hkD.block j e.2.2.1 (fun e0 => ?_))) (fun j e => ⟨⟨?_, by have := e.2.2.1; omega⟩, ?_⟩)
      · rcases e.1 with z | z
        · rw [e0] at z; omega
        · omega
      · rcases e.1 with z | z
        · exact .inl z.1
        · exact .inr z
      · rcases e.1 with z | z
        · rw [if_pos (hmlt j z.1).2]; exact z.2
        · rw [if_neg (by omega)]
    · rename_i e
      have hgm := List.getElem_mem hmG
      have h3 := h.tag3 _ hgm
      have hne : (G[m]).tag ≠ g0.tag := by
        have hp := List.pairwise_iff_getElem.1 h.tags
        have hgi : G[i] = g0 := by rw [List.getElem?_eq_getElem hi] at hget; exact Option.some.inj hget
        rcases Nat.lt_or_gt_of_ne e with z | z
        · have := hp i m hi hmG z; rw [hgi] at this; exact fun e => this e.symm
        · have := hp m i hmG hi z; rw [hgi] at this; exact this
      exact Kd.R_mono (Kd.R_move (h.rows _ hgm) (fun j e => keep j e.1 (fun e0 => by have h1 := hgbM.2; rw [← e0] at h1; omega) (by omega))) (fun j e => ⟨⟨.inl e.1, by have := (hmlt j e.1).2; omega⟩, by rw [if_pos (hmlt j e.1).2]; exact e.2⟩)
  · rcases e.1 with z | z
    · exact (hmlt j z).1
    · omega
  · exact ((Seq.Kpt.of_new M hAB).trans (Seq.Kpt.grown hg) (M := M) (fun j hj e => by
      rcases e with e | e
      · exact e
      · exact (hro j e.symm).1)).trans hkD (fun j hj e => by
      rcases e with e | e
      · exact e
      · rw [e]; exact hgbM.1)
end
end Go.Proofs.YtihdlalbgdighaaDoor.QV
/- (exec.group).told, whatever is asked. -/
namespace Go.Proofs.YtihdlalbgdighaaDoor.QV
open Go.RowKit Go.Proofs.YtihdlalbgdighaaDoorW.PrintWords Go.Proofs.YtihdlalbgdighaaDoor.Seq Go.Shelf Go.Proofs.YtihdlalbgdighaaDoor.Op
set_option linter.unusedVariables false
set_option linter.unusedSimpArgs false

theorem seenL_snoc (a : Ag) (l : List Row) (x : Row) : seenL a (l ++ [x]) = if seenB a (atS x a.f1) = true then seenL a l ++ [atS x a.f1] else seenL a l := by
  unfold seenL
  rw [List.map_append, List.map_singleton, List.filter_append]
  cases h : seenB a (atS x a.f1) <;> simp [h]
theorem seenL_len (a : Ag) (l : List Row) : (seenL a l).length ≤ l.length := by
  have := List.length_filter_le (seenB a) (l.map (fun r => atS r a.f1))
  simpa [seenL] using this
theorem cv_f (v : S') (x : Row) (n : Int) (h : atS x n = v) : exec_at.f x n = some (v.f0, v.f1, v.f2, v.f3) := by rw [← h]; exact at_f x n
theorem null_any (w : World) : Calls Tryd.prog 77 #[] w fun e w' => e = .returned (.agg #[.int .i64 0, .bool false, .int .i64 0, .string ⟨#[]⟩]) ∧ Below w.heap.size w w' := by
  refine (value_Null.calls 0 false 0 ⟨#[]⟩ w rfl).mono ?_
  rintro e w' ⟨rfl, h⟩
  exact ⟨rfl, h⟩
set_option maxRecDepth 100000 in
set_option maxHeartbeats 8000000 in
theorem told_any (KA : Option Addr) (kn kc : Nat) (RA : Option Addr) (xs : List Row) (rc : Nat) (op col : Int) (w : World) (hr : kRows.C w RA xs.length xs) (hbd : xs.length ≤ 1048576) :
    Calls Tryd.prog 61 #[.agg #[.slice KA kn kc, .slice RA xs.length rc], .agg #[.int .i64 op, .int .i64 col]] w fun e w' => e = .returned (.agg (cv (toldS ⟨op, col⟩ xs))) ∧ Below w.heap.size w w' := by
  have hmax := hr.2.1
  obtain ⟨ag, hag⟩ : ∃ ag : Ag, (⟨op, col⟩ : Ag) = ag := ⟨_, rfl⟩
  have HAG := Lib.hid hag
  rw [hag]
  clear hag
  go_enter Tryd.func61, Tryd.ntmps61
  go_wp2
  obtain ⟨w2, hw2⟩ : ∃ w2, ((w.alloc (.cells #[.slice KA kn kc, .slice RA xs.length rc] 115)).alloc (.cells #[.int .i64 op, .int .i64 col] 99)).alloc (.cells #[.int .i64 0, .bool false, .int .i64 0, .string ⟨#[]⟩] 61) = w2 := ⟨_, rfl⟩
  rw [hw2]
  have hbw : Below w.heap.size w w2 := by rw [← hw2]; exact below_alloc (below_alloc (below_alloc (Below.refl _ _) _) _) _
  have g2 : w2.heap[w.heap.size]? = some (.cells #[.slice KA kn kc, .slice RA xs.length rc] 115 (0, 0)) := by rw [← hw2]; exact blk_alloc (blk_alloc (blk_new _ _) _) _
  have g3 : w2.heap[w.heap.size + 1]? = some (.cells #[.int .i64 op, .int .i64 col] 99 (0, 0)) := by
    have := blk_new (w.alloc (.cells #[.slice KA kn kc, .slice RA xs.length rc] 115)) (.cells #[.int .i64 op, .int .i64 col] 99)
    rw [World.size_alloc] at this
    rw [← hw2]; exact blk_alloc this _
  have g4 : w2.heap[w.heap.size + 1 + 1]? = some (.cells (cv zV) 61 (0, 0)) := by
    have := blk_new ((w.alloc (.cells #[.slice KA kn kc, .slice RA xs.length rc] 115)).alloc (.cells #[.int .i64 op, .int .i64 col] 99)) (.cells #[.int .i64 0, .bool false, .int .i64 0, .string ⟨#[]⟩] 61)
    rw [World.size_alloc, World.size_alloc] at this
    rw [← hw2]; exact this
  clear hw2
  have fin : ∀ (v : S') (V : World), Below w2.heap.size w2 V → V.heap[w.heap.size + 1 + 1]? = some (.cells (cv zV) 61 (0, 0)) ∧ (V.cell? ⟨w.heap.size + 1 + 1, 0, none⟩ = some (.int .i64 0) ∧ V.cell? ⟨w.heap.size + 1 + 1, 1, none⟩ = some (.bool false) ∧ V.cell? ⟨w.heap.size + 1 + 1, 2, none⟩ = some (.int .i64 0) ∧ V.cell? ⟨w.heap.size + 1 + 1, 3, none⟩ = some (.string ⟨#[]⟩)) ∧ (V.frozen? ⟨w.heap.size + 1 + 1, 0, none⟩ = false ∧ V.frozen? ⟨w.heap.size + 1 + 1, 1, none⟩ = false ∧ V.frozen? ⟨w.heap.size + 1 + 1, 2, none⟩ = false ∧ V.frozen? ⟨w.heap.size + 1 + 1, 3, none⟩ = false) ∧
      (set4 V (w.heap.size + 1 + 1) v).heap[w.heap.size + 1 + 1]? = some (.cells (cv v) 61 (0, 0)) ∧ Below w.heap.size w (set4 V (w.heap.size + 1 + 1) v) := fun v V hV => by
    have g := blk_below g4 hV
    exact ⟨g, cv_cells g, cv_frozen g, set4_at g, set4_below (hbw.trans (hV.mono hbw.size)) (by have := hbw.size; have := hV.size; omega) (by omega)⟩
  have FIN := Lib.hid fin
  clear fin
  go_loopw [5, 15] (fun l i wr => ∃ k : Nat, k ≤ xs.length ∧ i = .int .i64 k ∧ kS.R tS wr w2.heap.size (fun _ => True) l (seenL ag (xs.take k)) ∧ Below w2.heap.size w2 wr) (fun _ i _ => xs.length - (intOf i).toNat)
  case atStart => exact ⟨0, Nat.zero_le _, rfl, Kd.R_nil _ _ _ _ _, Below.refl _ _⟩
  case round =>
    obtain ⟨k, hk, rfl, hl, hB⟩ := hrel
    have hll : (seenL ag (xs.take k)).length ≤ k := Nat.le_trans (seenL_len _ _) (by rw [List.length_take]; omega)
    by_cases hlt : k < xs.length
    · have hr2 := Kd.C_below hr (hbw.trans (hB.mono hbw.size))
      have hts := take_snoc' ([] : Row) xs k hlt
      have hsn := seenL_snoc ag (xs.take k) (xs.getD k [])
      rw [hts] at hsn
      obtain ⟨ad, cs, rfl, _, hK, hcs⟩ := Kd.C_get hr2 [] k (by omega) (by omega)
      obtain ⟨Ao, co, rfl, hleo, hCo⟩ := hK
      have hx : xs.getD (k : Int).toNat [] = xs.getD k [] := rfl
      rw [hx] at hleo hCo hcs
      have hc0 := hcs 0 _ rfl
      have hsz : kRows.sz = 1 := rfl
      rw [hsz, Int.toNat_natCast, Nat.mul_one, Nat.add_zero] at hc0
      generalize xs.getD k [] = x at *
      obtain ⟨q, hq⟩ : ∃ q, atS x ag.f1 = q := ⟨_, rfl⟩
      rw [hq] at hsn
      have hq' : atS x col = q := by rw [← HAG.out] at hq; exact hq
      have ha := cv_f q x col hq'
      have hsb : seenB ag q = (q.f0 != 0 && (op != 1 || q.f0 == 2)) := by rw [← HAG.out]; rfl
      clear hq hq' hts
      obtain ⟨q0, q1, q2, q3⟩ := q
      have h31 := blk_cell (blk_below g3 hB) 1
      go_wp2_with fail
      refine (exec_at.calls Ao co x col _ _ _ _ wr hCo hleo ha).mono ?_
      rintro e W4 ⟨rfl, hb4⟩
      have hB4 : Below w2.heap.size w2 W4 := hB.trans (hb4.mono hB.size)
      have h30 := blk_cell (blk_alloc (blk_below g3 hB4) (.cells #[.int .i64 q0, .bool q1, .int .i64 q2, .string q3] 61)) 0
      have hl4 := Kd.R_below hl hb4
      have HSN := Lib.hid hsn
      have HSB := Lib.hid hsb
      clear hsn hsb hl
      have stay : seenB ag ⟨q0, q1, q2, q3⟩ = false → ∃ k' : Nat, k' ≤ xs.length ∧ Value.int .i64 ((k : Int) + 1) = .int .i64 k' ∧ kS.R tS (W4.alloc (.cells #[.int .i64 q0, .bool q1, .int .i64 q2, .string q3] 61)) w2.heap.size (fun _ => True) u5 (seenL ag (xs.take k')) ∧ Below w2.heap.size w2 (W4.alloc (.cells #[.int .i64 q0, .bool q1, .int .i64 q2, .string q3] 61)) := fun hf =>
        ⟨k + 1, by omega, by go_num, by rw [HSN.out, hf, if_neg (by simp)]; exact Kd.R_alloc hl4 _, below_alloc hB4 _⟩
      have STAY := Lib.hid stay
      clear stay
      by_cases hz : q0 = 0
      · subst hz
        go_wp2_with fail
        go_roundw
        case rel => exact STAY.out (by rw [HSB.out]; rfl)
        case measure => simp [intOf]; omega
      · by_cases ho : op = 1
        · subst ho
          by_cases h2 : q0 = 2
          · subst h2
            have hsn' : seenL ag (xs.take (k + 1)) = seenL ag (xs.take k) ++ [⟨2, q1, q2, q3⟩] := by rw [HSN.out, if_pos (by rw [HSB.out]; rfl)]
            have HS2 := Lib.hid hsn'
            clear hsn'
            go_wp2_with (at_builtin; refine Kd.R_append kS (w0 := w2) w2.heap.size rfl (.tmp 36) (.tmp 38) 62 61 _ 40 rfl Tryd.underlying62 infoS rfl (by decide) (by decide) _ (seenL ag (xs.take k)) ⟨2, q1, q2, q3⟩ [.int .i64 2, .bool q1, .int .i64 q2, .string q3] (fun _ => True) (fun _ => False) rfl (slice_alloc _ _ _ _) (k61_mkM _ _ _ _) (fun _ h => h.elim) (fun _ _ => trivial) (Kd.R_alloc hl4 _) (below_alloc hB4 _) (by have := hB4.size; simp; omega) (by omega) ?_; intro v1 w1 hv1 hB1 hg1 hat1)
            go_roundw
            case rel => exact ⟨k + 1, by omega, by go_num, by rw [HS2.out]; exact hv1, hB1⟩
            case measure => simp [intOf]; omega
          · have h2b : (q0 == 2) = false := by simp [h2]
            have h2d : decide (q0 = 2) = false := by simp [h2]
            go_wp2_with fail
            go_roundw
            case rel => exact STAY.out (by rw [HSB.out]; simp [hz, h2])
            case measure => simp [intOf]; omega
        · have hsn' : seenL ag (xs.take (k + 1)) = seenL ag (xs.take k) ++ [⟨q0, q1, q2, q3⟩] := by rw [HSN.out, if_pos (by rw [HSB.out]; simp [hz, ho])]
          have HS2 := Lib.hid hsn'
          clear hsn'
          go_wp2_with (at_builtin; refine Kd.R_append kS (w0 := w2) w2.heap.size rfl (.tmp 36) (.tmp 38) 62 61 _ 40 rfl Tryd.underlying62 infoS rfl (by decide) (by decide) _ (seenL ag (xs.take k)) ⟨q0, q1, q2, q3⟩ [.int .i64 q0, .bool q1, .int .i64 q2, .string q3] (fun _ => True) (fun _ => False) rfl (slice_alloc _ _ _ _) (k61_mkM _ _ _ _) (fun _ h => h.elim) (fun _ _ => trivial) (Kd.R_alloc hl4 _) (below_alloc hB4 _) (by have := hB4.size; simp; omega) (by omega) ?_; intro v1 w1 hv1 hB1 hg1 hat1)
          go_roundw
          case rel => exact ⟨k + 1, by omega, by go_num, by rw [HS2.out]; exact hv1, hB1⟩
          case measure => simp [intOf]; omega
    · obtain rfl : k = xs.length := by omega
      rw [List.take_length] at hl hll
      have h30 := blk_cell (blk_below g3 hB) 0
      have h21 := blk_cell (blk_below g2 hB) 1
      have finish : True := trivial
      by_cases h0 : op = 0
      · subst h0
        have hT : toldS ag xs = numV xs.length := by rw [← HAG.out]; rfl
        have HT := Lib.hid hT
        clear hT hl
        go_wp2_with fail
        refine (int_any _ _).mono ?_
        rintro e W5 ⟨rfl, hb5⟩
        obtain ⟨gz, ⟨n0, n1, n2, n3⟩, ⟨m0, m1, m2, m3⟩, hs, hbf⟩ := FIN.out (numV xs.length) W5 (hB.trans (hb5.mono hB.size))
        clear gz
        go_wp2_with fail
        refine bodyPost_ret (results_cell_row rfl _ _ (w.heap.size + 1 + 1) 61 (cv (numV xs.length)) (0, 0) _ rfl hs Tryd.underlying61 rfl rfl) rfl ?_
        exact ⟨by rw [HT.out], hbf⟩
      · have hT : toldS ag xs = match seenL ag xs with | [] => zV | x :: l => if op < 0 then zV else if 3 < op then zV else if op = 2 then minV x l else if op = 3 then maxV x l else numV (sumV 0 (x :: l)) := by
          rw [← HAG.out]; exact if_neg h0
        obtain ⟨TV, hTV⟩ : ∃ TV, toldS ag xs = TV := ⟨_, rfl⟩
        rw [hTV] at hT
        have HTV := Lib.hid hTV
        obtain ⟨L, hL⟩ : ∃ L, seenL ag xs = L := ⟨_, rfl⟩
        rw [hL] at hT hl hll
        clear hL hTV
        obtain ⟨LA, lc, rfl⟩ := Kd.R_slice hl
        obtain ⟨_, hlle, hLC⟩ := Kd.R_reads' hl
        have nul : ∀ V, Below wr.heap.size wr V → TV = zV → (V.cell? ⟨w.heap.size + 1 + 1, 0, none⟩ = some (.int .i64 0) ∧ V.cell? ⟨w.heap.size + 1 + 1, 1, none⟩ = some (.bool false) ∧ V.cell? ⟨w.heap.size + 1 + 1, 2, none⟩ = some (.int .i64 0) ∧ V.cell? ⟨w.heap.size + 1 + 1, 3, none⟩ = some (.string ⟨#[]⟩)) ∧ (V.frozen? ⟨w.heap.size + 1 + 1, 0, none⟩ = false ∧ V.frozen? ⟨w.heap.size + 1 + 1, 1, none⟩ = false ∧ V.frozen? ⟨w.heap.size + 1 + 1, 2, none⟩ = false ∧ V.frozen? ⟨w.heap.size + 1 + 1, 3, none⟩ = false) ∧
            (set4 V (w.heap.size + 1 + 1) zV).heap[w.heap.size + 1 + 1]? = some (.cells (cv zV) 61 (0, 0)) ∧ Ending.returned (.agg (cv zV)) = .returned (.agg (cv (toldS ag xs))) ∧ Below w.heap.size w (set4 V (w.heap.size + 1 + 1) zV) := fun V hV e => by
          obtain ⟨_, a, b, c, d⟩ := FIN.out zV V (hB.trans (hV.mono hB.size))
          exact ⟨a, b, c, by rw [HTV.out, e], d⟩
        have NUL := Lib.hid nul
        clear nul hl
        cases L with
        | nil =>
          have HT := Lib.hid (show TV = zV from hT)
          clear hT
          simp only [List.length_nil] at hlle hLC hll ⊢
          go_wp2_with fail
          refine (null_any _).mono ?_
          rintro e W5 ⟨rfl, hb5⟩
          obtain ⟨⟨n0, n1, n2, n3⟩, ⟨m0, m1, m2, m3⟩, hs, hret, hbf⟩ := NUL.out W5 hb5 HT.out
          go_wp2_with fail
          refine bodyPost_ret (results_cell_row rfl _ _ (w.heap.size + 1 + 1) 61 (cv zV) (0, 0) _ rfl hs Tryd.underlying61 rfl rfl) rfl ?_
          exact ⟨hret, hbf⟩
        | cons x l =>
          obtain ⟨n, hn⟩ : ∃ n, (x :: l).length = n := ⟨_, rfl⟩
          have hn0 : ¬ n = 0 := by rw [← hn]; simp
          have HN := Lib.hid hn
          rw [hn] at hlle hLC hll ⊢
          clear hn
          by_cases hneg : op < 0
          · have HT := Lib.hid (show TV = zV by rw [hT]; simp only; rw [if_pos hneg])
            clear hT
            go_wp2_with fail
            refine (null_any _).mono ?_
            rintro e W5 ⟨rfl, hb5⟩
            obtain ⟨⟨n0, n1, n2, n3⟩, ⟨m0, m1, m2, m3⟩, hs, hret, hbf⟩ := NUL.out W5 hb5 HT.out
            go_wp2_with fail
            refine bodyPost_ret (results_cell_row rfl _ _ (w.heap.size + 1 + 1) 61 (cv zV) (0, 0) _ rfl hs Tryd.underlying61 rfl rfl) rfl ?_
            exact ⟨hret, hbf⟩
          · by_cases hbig : 3 < op
            · have HT := Lib.hid (show TV = zV by rw [hT]; simp only; rw [if_neg hneg, if_pos hbig])
              clear hT
              go_wp2_with fail
              refine (null_any _).mono ?_
              rintro e W5 ⟨rfl, hb5⟩
              obtain ⟨⟨n0, n1, n2, n3⟩, ⟨m0, m1, m2, m3⟩, hs, hret, hbf⟩ := NUL.out W5 hb5 HT.out
              go_wp2_with fail
              refine bodyPost_ret (results_cell_row rfl _ _ (w.heap.size + 1 + 1) 61 (cv zV) (0, 0) _ rfl hs Tryd.underlying61 rfl rfl) rfl ?_
              exact ⟨hret, hbf⟩
            · by_cases h2 : op = 2
              · subst h2
                have HT := Lib.hid (show TV = minV x l by rw [hT]; rfl)
                clear hT
                go_wp2_with fail
                have hmm := min_any LA x l lc wr (by rw [HN.out]; exact hLC) (by rw [HN.out]; exact hlle)
                rw [HN.out] at hmm
                refine hmm.mono ?_
                rintro e W5 ⟨he, hb5⟩
                obtain ⟨gz, ⟨n0, n1, n2, n3⟩, ⟨m0, m1, m2, m3⟩, hs, hbf⟩ := FIN.out (minV x l) W5 (hB.trans (hb5.mono hB.size))
                clear gz hmm
                have hret : Ending.returned (.agg (cv (minV x l))) = .returned (.agg (cv (toldS ag xs))) := by rw [HTV.out, HT.out]
                generalize minV x l = y at *
                obtain ⟨y0, y1, y2, y3⟩ := y
                have HR := Lib.hid hret
                clear hret
                have he' : e = .returned (.agg #[.int .i64 y0, .bool y1, .int .i64 y2, .string y3]) := he
                subst he'
                clear he
                go_wp2_with fail
                refine bodyPost_ret (results_cell_row rfl _ _ (w.heap.size + 1 + 1) 61 (cv ⟨y0, y1, y2, y3⟩) (0, 0) _ rfl hs Tryd.underlying61 rfl rfl) rfl ?_
                exact ⟨HR.out, hbf⟩
              · by_cases h3 : op = 3
                · subst h3
                  have HT := Lib.hid (show TV = maxV x l by rw [hT]; rfl)
                  clear hT
                  go_wp2_with fail
                  have hmm := max_any LA x l lc wr (by rw [HN.out]; exact hLC) (by rw [HN.out]; exact hlle)
                  rw [HN.out] at hmm
                  refine hmm.mono ?_
                  rintro e W5 ⟨he, hb5⟩
                  obtain ⟨gz, ⟨n0, n1, n2, n3⟩, ⟨m0, m1, m2, m3⟩, hs, hbf⟩ := FIN.out (maxV x l) W5 (hB.trans (hb5.mono hB.size))
                  clear gz hmm
                  have hret : Ending.returned (.agg (cv (maxV x l))) = .returned (.agg (cv (toldS ag xs))) := by rw [HTV.out, HT.out]
                  generalize maxV x l = y at *
                  obtain ⟨y0, y1, y2, y3⟩ := y
                  have HR := Lib.hid hret
                  clear hret
                  have he' : e = .returned (.agg #[.int .i64 y0, .bool y1, .int .i64 y2, .string y3]) := he
                  subst he'
                  clear he
                  go_wp2_with fail
                  refine bodyPost_ret (results_cell_row rfl _ _ (w.heap.size + 1 + 1) 61 (cv ⟨y0, y1, y2, y3⟩) (0, 0) _ rfl hs Tryd.underlying61 rfl rfl) rfl ?_
                  exact ⟨HR.out, hbf⟩
                · obtain rfl : op = 1 := by omega
                  have HT := Lib.hid (show TV = numV (sumV 0 (x :: l)) by rw [hT]; rfl)
                  clear hT
                  have hC0 : kS.C wr LA (x :: l).length (x :: l) := by rw [HN.out]; exact hLC
                  have hln : (x :: l).length = n := HN.out
                  generalize x :: l = L at *
                  have hsnoc : ∀ k, k < n → sumV 0 (L.take (k + 1)) = wrap64 (sumV 0 (L.take k) + (L.getD k zV).f2) := fun k hk => by
                    rw [← take_snoc' zV L k (by omega)]; simp [sumV]
                  have HSN := Lib.hid hsnoc
                  have hcell : ∀ k, k < n → ∃ ad y, LA = some ad ∧ L.getD k zV = y ∧ ∀ V, Below wr.heap.size wr V → V.cell? (ad.add (k * 4)) = some (.int .i64 y.f0) ∧ V.cell? ⟨(ad.add (k * 4)).block, (ad.add (k * 4)).off + 1, none⟩ = some (.bool y.f1) ∧ V.cell? ⟨(ad.add (k * 4)).block, (ad.add (k * 4)).off + 2, none⟩ = some (.int .i64 y.f2) ∧ V.cell? ⟨(ad.add (k * 4)).block, (ad.add (k * 4)).off + 3, none⟩ = some (.string y.f3) := fun k hk => by
                    obtain ⟨ad, e, r⟩ := kS_atV hC0 k (by omega)
                    refine ⟨ad, _, e, rfl, fun V hV => ?_⟩
                    exact ⟨pw_cell_below hV r.1, pw_cell_below hV r.2.1, pw_cell_below hV r.2.2.1, pw_cell_below hV r.2.2.2⟩
                  have HCE := Lib.hid hcell
                  have hend : sumV 0 (L.take n) = sumV 0 L := by rw [List.take_of_length_le (by omega)]
                  have HEND := Lib.hid hend
                  clear hsnoc hcell hend hC0 hLC hln HN
                  go_wp2_with fail
                  go_loopw [9, 78] (fun sv iv V => ∃ (k : Nat), k ≤ n ∧ iv = .int .i64 k ∧ sv = .int .i64 (sumV 0 (L.take k)) ∧ Below wr.heap.size wr V) (fun _ iv _ => n - (intOf iv).toNat)
                  case atStart => exact ⟨0, Nat.zero_le _, rfl, rfl, Below.refl _ _⟩
                  case round =>
                    rename_i wq _
                    obtain ⟨k, hk, rfl, rfl, hBq⟩ := hrel
                    by_cases hlt : k < n
                    · obtain ⟨ad, y, rfl, hy, hce⟩ := HCE.out k hlt
                      obtain ⟨c0, c1, c2, c3⟩ := hce _ hBq
                      have hS := HSN.out k hlt
                      rw [hy] at hS
                      clear hce hy
                      obtain ⟨y0, y1, y2, y3⟩ := y
                      have HS := Lib.hid hS
                      clear hS
                      generalize sumV 0 (L.take k) = s at *
                      simp only at c0 c1 c2 c3
                      go_wp2
                      go_roundw
                      case rel => exact ⟨k + 1, by omega, by go_num, by rw [HS.out], below_alloc hBq _⟩
                      case measure => simp [intOf]; omega
                    · obtain rfl : k = n := by omega
                      rw [HEND.out] at *
                      go_wp2_with fail
                      refine (int_any _ _).mono ?_
                      rintro e W5 ⟨rfl, hb5⟩
                      obtain ⟨gz, ⟨n0, n1, n2, n3⟩, ⟨m0, m1, m2, m3⟩, hs, hbf⟩ := FIN.out (numV (sumV 0 L)) W5 (hB.trans ((hBq.trans (hb5.mono hBq.size)).mono hB.size))
                      clear gz
                      go_wp2_with fail
                      refine bodyPost_ret (results_cell_row rfl _ _ (w.heap.size + 1 + 1) 61 (cv (numV (sumV 0 L))) (0, 0) _ rfl hs Tryd.underlying61 rfl rfl) rfl ?_
                      exact ⟨by rw [HTV.out, HT.out], hbf⟩
end Go.Proofs.YtihdlalbgdighaaDoor.QV
/- slices.Clone of whole numbers. -/
namespace Go.Proofs.YtihdlalbgdighaaDoor.QV
open Go.RowKit Go.Proofs.YtihdlalbgdighaaDoorW.PrintWords
set_option linter.unusedVariables false
set_option linter.unusedSimpArgs false
abbrev kI : Kd Int := Kd.int .i64
theorem infoI : (Tryd.prog.info? 3).map (fun i => (i.zero, i.size, i.bytes)) = some (some (.int .i64 0), 1, 8) := by kernel_rfl
theorem kI_KM {w W : World} {base : Nat} {ok : Nat → Prop} (x : Int) (cs : List Value) (h : kI.K w x cs) : kI.M W base ok x cs := h
set_option maxHeartbeats 1000000 in
theorem clone_ints (A : Option Addr) (l : List Int) (c : Nat) (w : World) (hr : kI.C w A l.length l) (hc : l.length ≤ c) (hb : l.length * 8 ≤ 140737488355328) :
    Calls Tryd.prog 53 #[.slice A l.length c] w fun e w' => ∃ v, e = .returned v ∧ kI.R 3 w' w.heap.size (fun _ => True) v l ∧ Below w.heap.size w w' := by
  have hmax := hr.2.1
  cases A with
  | none =>
    have hl : l = [] := by
      cases l with
      | nil => rfl
      | cons x l => obtain ⟨ad, e, _⟩ := hr.2.2 (by simp); cases e
    subst hl
    have hn := Lib.run_eql_slice_nil (P := Tryd.prog)
    go_enter Tryd.func53, Tryd.ntmps53
    go_wp2
    go_ret
    exact ⟨_, rfl, Kd.R_nil _ _ _ _ _, Below.refl _ _⟩
  | some ad =>
    have hn := Lib.run_eql_slice_nil (P := Tryd.prog)
    go_enter Tryd.func53, Tryd.ntmps53
    go_wp2_with (at_builtin; refine Kd.R_append_rows kI (w0 := w) w.heap.size rfl (.tmp 5) (.tmp 6) 23 3 _ 8 rfl Tryd.underlying23 infoI rfl (by decide) (by decide) (.slice (some ⟨w.heap.size, 0, none⟩) 0 0) [] l (some ad) l.length c (fun _ => True) (fun _ => False) rfl rfl (R_empty' kI _ _ _ _ (Nat.le_refl _) trivial) (Kd.C_below hr (below_alloc (Below.refl _ _) _)) (fun x cs h => kI_KM x cs h) (fun _ h => h.elim) (fun _ _ => trivial) (below_alloc (Below.refl _ _) _) (by simp) (by simp; omega) ?_; intro v1 w4 hv1 hB7 hg7 hat7; clear hg7 hat7)
    go_ret
    exact ⟨v1, rfl, by simpa using hv1, hB7⟩
end Go.Proofs.YtihdlalbgdighaaDoor.QV
