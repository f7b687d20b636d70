/- The parts QVx0, Open, XOpen, QVx1, QVx2, Kinds, Order, Shelf, Value, RowsV, QRow, Clone, Seq, Round, Values, All, Seq2, Eq, RefRight, GVE, Join, Same, Twice, Told, Group1 of this proof, one behind the other. -/
import Derived.Test.YtihdlalbgdighaaDoorZW1
import Derived.Test.YtihdlalbgdighaaDoorProg
import Derived.Below
import Derived.Deep.Draws
import Derived.Deep.AppendLies
import Derived.Maps.AppendAt
import Derived.OwnWalk
import Derived.Laws.BytesArg
import Derived.Laws.MakeOwn
import Derived.Laws.OwnMore
import Derived.Deep.OwnRows
import Derived.Tactics
import Derived.Lib.ConvBytes
import Derived.Laws.Slices
import Derived.WalkKit
import Derived.KernelRfl
import Derived.RowKit3
import Derived.Deep.LoopGhost
import Derived.Deep.QuietTactic
import Derived.BigQuiet
import Derived.WideLaws
import Derived.Deep.DeepCutAuto
import Derived.Deep.CutBlock
import Derived.Deep.RegionHeld3
import Derived.Laws.Rows
import Derived.Lib.AppendStr
import Derived.ArgAppend
import Derived.Laws.IdiomCopy
import Derived.OrdersHeld
import Derived.Laws.BitsLemmas
import Derived.RowKit
import Derived.Test.YtihdlalbgdighaaDoorRows
import Derived.ProofKit
import Derived.OpenShut
import Derived.SizedLaws
import Derived.Lib.Bytealg
import Derived.Shelf.Small.Strs
import Derived.WalkSpells
import Derived.Lib.Hide
import Derived.RangeFuncNested
import Derived.RangeFuncBound
import Derived.RangeFuncCalls
import Derived.RangeFuncLeaves
import Derived.OrdersIn
import Derived.TacticsIn
import Derived.Deep.RegionHeld
import Derived.Shelf.Abstract
import Derived.OwnWalkIn
import Derived.TacticsInMore
import Derived.LoopNIn
import Derived.LoopIn
import Derived.ControlIn
import Derived.Scope
import Derived.Handy
/- Printed by mp.py (this session's) with the kit's print: plain functions with the answers of the Go code, and the proofs of it. -/
namespace Go.Proofs.YtihdlalbgdighaaDoor.QV
open Go.RowKit Go.Proofs.YtihdlalbgdighaaDoorW.PrintWords Go.Proofs.YtihdlalbgdighaaDoorW.PrintLast Go.Proofs.YtihdlalbgdighaaDoorW.PrintMore
attribute [local go_sem] max2_int min2_int max_two min_two max_three min_three max_four min_four   -- for this text's walks alone
set_option linter.unusedVariables false
set_option linter.unusedSimpArgs false



def errW : Option Int → Value
  | none => .nilIface
  | some c => .iface 0 (.int .i64 c)
theorem errW_none : errW none = .nilIface := rfl
theorem errW_some (c : Int) : errW (some c) = .iface 0 (.int .i64 c) := rfl

theorem info61 : (Tryd.prog.info? 61).map (fun i => (i.zero, i.size, i.bytes)) = some (some (.agg #[(.int .i64 0), (.bool false), (.int .i64 0), (.string ⟨#[]⟩)]), 4, 40) := by kernel_rfl
-- the values' own types
/-! #### struct type 61 -/
structure S61 where
  f0 : Int
  f1 : Bool
  f2 : Int
  f3 : ByteArray
def z61 : S61 := ⟨(0 : Int), false, (0 : Int), (⟨#[]⟩ : ByteArray)⟩
def k61 : Kd S61 := Kd.iso (Kd.pair (Kd.int .i64) (Kd.pair Kd.bool (Kd.pair (Kd.int .i64) Kd.string))) (fun x : S61 => (x.f0, x.f1, x.f2, x.f3))
theorem k61_open {w : World} {x : S61} {cs : List Value} (h : k61.K w x cs) : cs = [.int .i64 x.f0, .bool x.f1, .int .i64 x.f2, .string x.f3] := by
  obtain ⟨_, _, rfl, rfl, ⟨_, _, rfl, rfl, ⟨_, _, rfl, rfl, rfl⟩⟩⟩ := h
  exact rfl
theorem k61_mk (w : World) (x : S61)  : k61.K w x [.int .i64 x.f0, .bool x.f1, .int .i64 x.f2, .string x.f3] := ⟨[.int .i64 x.f0], [.bool x.f1, .int .i64 x.f2, .string x.f3], rfl, rfl, ⟨[.bool x.f1], [.int .i64 x.f2, .string x.f3], rfl, rfl, ⟨[.int .i64 x.f2], [.string x.f3], rfl, rfl, rfl⟩⟩⟩
theorem k61_mkM (w : World) (base : Nat) (ok : Nat → Prop) (x : S61)  : k61.M w base ok x [.int .i64 x.f0, .bool x.f1, .int .i64 x.f2, .string x.f3] := ⟨[.int .i64 x.f0], [.bool x.f1, .int .i64 x.f2, .string x.f3], rfl, rfl, ⟨[.bool x.f1], [.int .i64 x.f2, .string x.f3], rfl, rfl, ⟨[.int .i64 x.f2], [.string x.f3], rfl, rfl, rfl⟩⟩⟩
def rd_T61 (xs : List S61) (i : Int) : S61 := xs.getD i.toNat z61
theorem at_T61 {w : World} {A : Option Addr} {n : Nat} {xs : List S61} (h : Kd.C k61 w A n xs) (i : Int) (h0 : 0 ≤ i) (h1 : i < n) : ∃ ad , A = some ad ∧ w.cell? (ad.add (i.toNat * 4)) = some (.int .i64 (rd_T61 xs i).f0) ∧ w.cell? ⟨(ad.add (i.toNat * 4)).block, (ad.add (i.toNat * 4)).off + 1, none⟩ = some (.bool (rd_T61 xs i).f1) ∧ w.cell? ⟨(ad.add (i.toNat * 4)).block, (ad.add (i.toNat * 4)).off + 2, none⟩ = some (.int .i64 (rd_T61 xs i).f2) ∧ w.cell? ⟨(ad.add (i.toNat * 4)).block, (ad.add (i.toNat * 4)).off + 3, none⟩ = some (.string (rd_T61 xs i).f3) := by
  obtain ⟨ad, c, e, _, hK, hc0⟩ := Kd.C_get h z61 i h0 h1
  have hc : ∀ j u, c[j]? = some u → w.cell? (ad.add (i.toNat * 4 + j)) = some u := hc0
  obtain rfl := k61_open hK
  exact ⟨ad, e, hc 0 _ rfl, by rw [← add_field _ _ 1 (by omega)]; exact hc 1 _ rfl, by rw [← add_field _ _ 2 (by omega)]; exact hc 2 _ rfl, by rw [← add_field _ _ 3 (by omega)]; exact hc 3 _ rfl⟩

def rd_L4 (xs : List (List S61)) (i : Int) : (List S61) := xs.getD i.toNat ([] : List S61)
theorem at_L4 {w : World} {A : Option Addr} {n : Nat} {xs : List (List S61)} (h : Kd.C (Kd.slice 61 k61) w A n xs) (i : Int) (h0 : 0 ≤ i) (h1 : i < n) : ∃ ad A0 c0, A = some ad ∧ w.cell? (ad.add i.toNat) = some (.slice A0 (rd_L4 xs i).length c0) ∧ (rd_L4 xs i).length ≤ c0 ∧ k61.C w A0 (rd_L4 xs i).length (rd_L4 xs i) := by
  obtain ⟨ad, c, e, _, hK, hc0⟩ := Kd.C_get h ([] : List S61) i h0 h1
  have hc : ∀ j u, c[j]? = some u → w.cell? (ad.add (i.toNat * 1 + j)) = some u := hc0
  obtain ⟨A0, c0, rfl, l0, g0⟩ := hK
  exact ⟨ad, A0, c0, e, by have hq := hc 0 _ rfl; rwa [Nat.mul_one, Nat.add_zero] at hq, l0, g0⟩

/-! #### struct type 101 -/
structure S101 where
  f0 : ByteArray
  f1 : Int
  f2 : Bool
def k101 : Kd S101 := Kd.iso (Kd.pair Kd.string (Kd.pair (Kd.int .i64) Kd.bool)) (fun x : S101 => (x.f0, x.f1, x.f2))
theorem k101_mkM (w : World) (base : Nat) (ok : Nat → Prop) (x : S101)  : k101.M w base ok x [.string x.f0, .int .i64 x.f1, .bool x.f2] := ⟨[.string x.f0], [.int .i64 x.f1, .bool x.f2], rfl, rfl, ⟨[.int .i64 x.f1], [.bool x.f2], rfl, rfl, rfl⟩⟩
/-! #### struct type 77 -/
structure S77 where
  f0 : ByteArray
  f1 : (List S101)
def z77 : S77 := ⟨(⟨#[]⟩ : ByteArray), ([] : List S101)⟩
def k77 : Kd S77 := Kd.iso (Kd.pair Kd.string (Kd.slice 101 k101)) (fun x : S77 => (x.f0, x.f1))
theorem k77_open {w : World} {x : S77} {cs : List Value} (h : k77.K w x cs) : ∃ A1 c1, cs = [.string x.f0, .slice A1 x.f1.length c1] ∧ x.f1.length ≤ c1 ∧ k101.C w A1 x.f1.length x.f1 := by
  obtain ⟨_, _, rfl, rfl, ⟨A1, c1, rfl, l1, g1⟩⟩ := h
  exact ⟨A1, c1, rfl, l1, g1⟩
theorem k77_mk (w : World) (x : S77) {A1 : Option Addr} {c1 : Nat} (l1 : x.f1.length ≤ c1) (g1 : k101.C w A1 x.f1.length x.f1) : k77.K w x [.string x.f0, .slice A1 x.f1.length c1] := ⟨[.string x.f0], [.slice A1 x.f1.length c1], rfl, rfl, ⟨A1, c1, rfl, l1, g1⟩⟩
theorem k77_mkF (W : World) (ok : Nat → Prop) (x : S77) {A1 : Option Addr} {c1 : Nat} (l1 : x.f1.length ≤ c1) (g1 : Kd.F k101 W ok A1 x.f1.length x.f1) : Kd.FK k77 W ok x [.string x.f0, .slice A1 x.f1.length c1] := fun W2 hW => k77_mk W2 x l1 (g1 W2 hW)
/-! #### struct type 80 -/
structure S80 where
  f0 : ByteArray
  f1 : Int
  f2 : (List Int)
  f3 : (List Int)
  f4 : Int
  f5 : Int
def z80 : S80 := ⟨(⟨#[]⟩ : ByteArray), (0 : Int), ([] : List Int), ([] : List Int), (0 : Int), (0 : Int)⟩
def k80 : Kd S80 := Kd.iso (Kd.pair Kd.string (Kd.pair (Kd.int .i64) (Kd.pair (Kd.slice 3 (Kd.int .i64)) (Kd.pair (Kd.slice 3 (Kd.int .i64)) (Kd.pair (Kd.int .i64) (Kd.int .i64)))))) (fun x : S80 => (x.f0, x.f1, x.f2, x.f3, x.f4, x.f5))
theorem k80_open {w : World} {x : S80} {cs : List Value} (h : k80.K w x cs) : ∃ A2 c2 A3 c3, cs = [.string x.f0, .int .i64 x.f1, .slice A2 x.f2.length c2, .slice A3 x.f3.length c3, .int .i64 x.f4, .int .i64 x.f5] ∧ x.f2.length ≤ c2 ∧ (Kd.int .i64).C w A2 x.f2.length x.f2 ∧ x.f3.length ≤ c3 ∧ (Kd.int .i64).C w A3 x.f3.length x.f3 := by
  obtain ⟨_, _, rfl, rfl, ⟨_, _, rfl, rfl, ⟨_, _, rfl, ⟨A2, c2, rfl, l2, g2⟩, ⟨_, _, rfl, ⟨A3, c3, rfl, l3, g3⟩, ⟨_, _, rfl, rfl, rfl⟩⟩⟩⟩⟩ := h
  exact ⟨A2, c2, A3, c3, rfl, l2, g2, l3, g3⟩
theorem k80_mk (w : World) (x : S80) {A2 : Option Addr} {c2 : Nat} (l2 : x.f2.length ≤ c2) (g2 : (Kd.int .i64).C w A2 x.f2.length x.f2) {A3 : Option Addr} {c3 : Nat} (l3 : x.f3.length ≤ c3) (g3 : (Kd.int .i64).C w A3 x.f3.length x.f3) : k80.K w x [.string x.f0, .int .i64 x.f1, .slice A2 x.f2.length c2, .slice A3 x.f3.length c3, .int .i64 x.f4, .int .i64 x.f5] := ⟨[.string x.f0], [.int .i64 x.f1, .slice A2 x.f2.length c2, .slice A3 x.f3.length c3, .int .i64 x.f4, .int .i64 x.f5], rfl, rfl, ⟨[.int .i64 x.f1], [.slice A2 x.f2.length c2, .slice A3 x.f3.length c3, .int .i64 x.f4, .int .i64 x.f5], rfl, rfl, ⟨[.slice A2 x.f2.length c2], [.slice A3 x.f3.length c3, .int .i64 x.f4, .int .i64 x.f5], rfl, ⟨A2, c2, rfl, l2, g2⟩, ⟨[.slice A3 x.f3.length c3], [.int .i64 x.f4, .int .i64 x.f5], rfl, ⟨A3, c3, rfl, l3, g3⟩, ⟨[.int .i64 x.f4], [.int .i64 x.f5], rfl, rfl, rfl⟩⟩⟩⟩⟩
theorem k80_mkF (W : World) (ok : Nat → Prop) (x : S80) {A2 : Option Addr} {c2 : Nat} (l2 : x.f2.length ≤ c2) (g2 : Kd.F (Kd.int .i64) W ok A2 x.f2.length x.f2) {A3 : Option Addr} {c3 : Nat} (l3 : x.f3.length ≤ c3) (g3 : Kd.F (Kd.int .i64) W ok A3 x.f3.length x.f3) : Kd.FK k80 W ok x [.string x.f0, .int .i64 x.f1, .slice A2 x.f2.length c2, .slice A3 x.f3.length c3, .int .i64 x.f4, .int .i64 x.f5] := fun W2 hW => k80_mk W2 x l2 (g2 W2 hW) l3 (g3 W2 hW)
end Go.Proofs.YtihdlalbgdighaaDoor.QV
/- How an argument that reads as data is opened into kinds (Kd) of the print's words: whole numbers, bools, strings, structs, arrays of two and three, slices of these, at any depth; with the bounds that the row's reach and its bulk give. -/
namespace Go.Proofs.YtihdlalbgdighaaDoor.Op
open Go.RowKit Go.Proofs.YtihdlalbgdighaaDoorW.PrintWords
set_option linter.unusedVariables false

def Opens {α : Type} (P : Program) (t : TypeId) (d : Kd α) (g : α → Prop) (m : α → Nat) : Prop :=
  ∀ {H : Type} (enc : TypeId × Value → H) (w : World) (base : Nat) (spare : Nat → Bool) (held : Bool) (fuel : Nat) (cs : List Value) (x : DataW H × List MemPlace),
    DataW.trod enc P w base spare held fuel t cs = some x → (∀ n ∈ x.1.weights P t, n ≤ reachBytes) → ∃ a, d.K w a cs ∧ g a ∧ m a ≤ Rows.uptoBulk x.1

theorem opens_int {P : Program} {t : TypeId} {k : IntKind} (ht : P.underlying t = some (.int k)) : Opens P t (Kd.int k) (fun n => (Lit.int k n).wf = true) (fun _ => 1) := by
  intro H enc w base spare held fuel cs x h _
  obtain ⟨n, rfl, rfl, hw⟩ := DataW.trod_int ht h
  exact ⟨n, rfl, hw, by simp [Rows.uptoBulk]⟩
theorem opens_bool {P : Program} {t : TypeId} (ht : P.underlying t = some .bool) : Opens P t Kd.bool (fun _ => True) (fun _ => 1) := by
  intro H enc w base spare held fuel cs x h _
  obtain ⟨b, rfl, rfl⟩ := DataW.trod_bool ht h
  exact ⟨b, rfl, trivial, by simp [Rows.uptoBulk]⟩
theorem opens_string {P : Program} {t : TypeId} (ht : P.underlying t = some .string) : Opens P t Kd.string (fun s => s.size ≤ 140737488351232) (fun s => s.size + 1) := by
  intro H enc w base spare held fuel cs x h hs
  obtain ⟨s, rfl, rfl, hw⟩ := DataW.trod_string ht h
  have hl : s.data.toList.length = s.size := by rw [Array.length_toList]; rfl
  refine ⟨s, rfl, ?_, by simp only [Rows.uptoBulk]; omega⟩
  have := hs s.data.toList.length (by simp [DataW.weights])
  rw [hl] at this
  exact this

theorem add_add (a : Addr) (m j : Nat) : (a.add m).add j = a.add (m + j) := by
  unfold Addr.add
  by_cases h1 : m = 0
  · subst h1; simp
  · by_cases h2 : j = 0
    · subst h2; simp [h1]
    · simp [h1, h2, Nat.add_assoc]
theorem cells_get {w : World} {base n : Nat} {a : Addr} {cs : List Value} (h : w.cells? base a n = some cs) : cs.length = n ∧ ∀ j u, cs[j]? = some u → w.cell? (a.add j) = some u := by
  unfold World.cells? at h
  split at h
  · have hl := mapM_some_length h
    refine ⟨by simpa using hl, fun j u hu => ?_⟩
    have hj : j < cs.length := (List.getElem?_eq_some_iff.1 hu).1
    have := mapM_some_get h j j (by rw [List.getElem?_range]; rw [hl] at hj; simpa using hj)
    rw [this]; exact hu
  · cases h

theorem weightsAll_mem {H : Type} {P : Program} {e : TypeId} : ∀ {l : List (DataW H)} {x : DataW H}, x ∈ l → ∀ n ∈ x.weights P e, n ∈ DataW.weightsAll P e l
  | [], _, h => by simp at h
  | y :: r, x, h => by
    intro n hn
    simp only [DataW.weightsAll, List.mem_append]
    rcases List.mem_cons.1 h with rfl | h
    · exact .inl hn
    · exact .inr (weightsAll_mem h n hn)

/-- One list of data against one list of values, element by element. -/
theorem all_open {α : Type} {H : Type} {K : α → List Value → Prop} {g : α → Prop} {m : α → Nat} {css : Nat → List Value → Prop} :
    ∀ (elems : List (DataW H × List MemPlace)) (o : Nat), (∀ i x, elems[i]? = some x → ∃ a cs, css (o + i) cs ∧ K a cs ∧ g a ∧ m a ≤ Rows.uptoBulk x.1) →
      ∃ zs : List α, zs.length = elems.length ∧ (∀ i a, zs[i]? = some a → ∃ cs, css (o + i) cs ∧ K a cs) ∧ (∀ a ∈ zs, g a) ∧ (zs.map m).sum ≤ Rows.uptoBulkAll (elems.map (·.1))
  | [], o, _ => ⟨[], rfl, by simp, by simp, by simp⟩
  | x :: r, o, h => by
    obtain ⟨a, cs, h1, h2, h3, h4⟩ := h 0 x rfl
    obtain ⟨zs, k1, k2, k3, k4⟩ := all_open (css := css) r (o + 1) (fun i y hy => by
      have := h (i + 1) y (by simpa using hy)
      rwa [show o + (i + 1) = o + 1 + i from by omega] at this)
    refine ⟨a :: zs, by simp [k1], fun i b hb => ?_, fun b hb => ?_, ?_⟩
    · cases i with
      | zero =>
        have : a = b := by simpa using hb
        subst this
        exact ⟨cs, h1, h2⟩
      | succ i =>
        have := k2 i b (by simpa using hb)
        rwa [show o + 1 + i = o + (i + 1) from by omega] at this
    · rcases List.mem_cons.1 hb with rfl | hb
      · exact h3
      · exact k3 b hb
    · simp only [List.map_cons, List.sum_cons, Rows.uptoBulkAll]
      omega

theorem opens_slice {P : Program} {t e : TypeId} {α : Type} {d : Kd α} {g : α → Prop} {m : α → Nat} (ht : P.underlying t = some (.slice e)) (hc : P.cellsOf e = d.sz) {B : Nat} (hB : P.bytesOf e = B) (he : Opens P e d g m) :
    Opens P t (Kd.slice e d) (fun xs => (∀ x ∈ xs, g x) ∧ xs.length ≤ 9223372036854775807 ∧ xs.length * B ≤ 140737488351232) (fun xs => (xs.map m).sum + 1) := by
  intro H enc w base spare held fuel cs x h hs
  rcases DataW.trod_slice ht h with ⟨rfl, rfl⟩ | ⟨a, len, cap, elems, rest, n, rfl, rfl, rfl, _, hl, hm, hel, hget, _⟩
  · exact ⟨[], ⟨none, 0, rfl, Nat.le_refl _, Kd.C_nil d w⟩, by simp, by simp [Rows.uptoBulk]⟩
  · have hw : ∀ y ∈ elems, ∀ n ∈ y.1.weights P e, n ≤ reachBytes := fun y hy n hn => hs n (by
      simp only [DataW.weights, ht, List.mem_cons, List.mem_append]
      exact .inr (.inl (weightsAll_mem (List.mem_map_of_mem hy) n hn)))
    have hlen : (elems.map (·.1)).length + (rest.map (·.1)).length = elems.length + rest.length := by simp
    have hb := hs _ (by simp only [DataW.weights, ht, List.mem_cons]; exact .inl rfl)
    rw [hlen, hB] at hb
    obtain ⟨zs, k1, k2, k3, k4⟩ := all_open (K := d.K w) (g := g) (m := m) (css := fun i cs => w.cells? base (a.add (i * d.sz)) d.sz = some cs) elems 0 (fun i y hy => by
      have hi : i < len := by rw [← hel]; exact (List.getElem?_eq_some_iff.1 hy).1
      have hg := hget i hi
      rw [hy, hc] at hg
      obtain ⟨cs, h1, h2⟩ := Option.bind_eq_some_iff.1 hg
      obtain ⟨b, h3, h4, h5⟩ := he enc w base spare held n cs y h2 (hw y (List.mem_of_getElem? hy))
      exact ⟨b, cs, by simpa using h1, h3, h4, h5⟩)
    have hle : zs.length * B ≤ 140737488351232 := by
      rw [k1]
      exact Nat.le_trans (Nat.mul_le_mul_right _ (Nat.le_add_right _ _)) hb
    have hmax : zs.length ≤ 9223372036854775807 := by
      rw [k1, hel]; unfold maxLen at hm; omega
    refine ⟨zs, ⟨some a, cap, by rw [k1, hel], by rw [k1, hel]; exact hl, rfl, hmax, fun _ => ⟨a, rfl, fun j p hj => ?_⟩⟩, ⟨k3, hmax, hle⟩, ?_⟩
    · obtain ⟨cs, h1, h2⟩ := k2 j p hj
      obtain ⟨h3, h4⟩ := cells_get h1
      simp only [Nat.zero_add] at h4
      exact ⟨cs, h3, h2, fun i u hu => by rw [← add_add]; exact h4 i u hu⟩
    · simp only [Rows.uptoBulk]; omega

/-- A struct's fields from place o on. -/
def OpensF {α : Type} (P : Program) (fs : List Field) (o : Nat) (d : Kd α) (g : α → Prop) (m : α → Nat) : Prop :=
  ∀ {H : Type} (enc : TypeId × Value → H) (w : World) (base : Nat) (spare : Nat → Bool) (held : Bool) (fuel : Nat) (cs : List Value) (xs : List (DataW H × List MemPlace)),
    xs.length = fs.length → (∀ (i : Nat) (f : Field), fs[i]? = some f → DataW.trod enc P w base spare held fuel f.type ((cs.drop f.offset).take (P.cellsOf f.type)) = xs[i]?) → cs.length = o + d.sz →
      (∀ n ∈ DataW.weightsEach P (fs.map (·.type)) (xs.map (·.1)), n ≤ reachBytes) → ∃ a, d.K w a (cs.drop o) ∧ g a ∧ m a ≤ Rows.uptoBulkAll (xs.map (·.1))
theorem opensF_last {P : Program} {f : Field} {o : Nat} {α : Type} {d : Kd α} {g : α → Prop} {m : α → Nat} (ho : f.offset = o) (hc : P.cellsOf f.type = d.sz) (h : Opens P f.type d g m) : OpensF P [f] o d g m := by
  intro H enc w base spare held fuel cs xs hl hget hcs hs
  match xs, hl with
  | [x], _ =>
    have h1 := hget 0 f rfl
    simp only [List.getElem?_cons_zero, ho, hc] at h1
    rw [List.take_of_length_le (by rw [List.length_drop]; omega)] at h1
    obtain ⟨a, k1, k2, k3⟩ := h enc w base spare held fuel _ x h1 (fun n hn => hs n (by simp only [List.map_cons, DataW.weightsEach, List.mem_append]; exact .inl hn))
    exact ⟨a, k1, k2, by simp only [List.map_cons, Rows.uptoBulkAll]; omega⟩
theorem opensF_cons {P : Program} {f : Field} {fs : List Field} {o o' : Nat} {α β : Type} {d : Kd α} {g : α → Prop} {m : α → Nat} {d' : Kd β} {g' : β → Prop} {m' : β → Nat} (ho : f.offset = o) (hc : P.cellsOf f.type = d.sz) (hoo : o + d.sz = o')
    (h : Opens P f.type d g m) (h' : OpensF P fs o' d' g' m') : OpensF P (f :: fs) o (Kd.pair d d') (fun x => g x.1 ∧ g' x.2) (fun x => m x.1 + m' x.2) := by
  intro H enc w base spare held fuel cs xs hl hget hcs hs
  match xs, hl with
  | x :: r, hl =>
    have hsz : (Kd.pair d d').sz = d.sz + d'.sz := rfl
    rw [hsz] at hcs
    have h1 := hget 0 f rfl
    simp only [List.getElem?_cons_zero, ho, hc] at h1
    obtain ⟨a, k1, k2, k3⟩ := h enc w base spare held fuel _ x h1 (fun n hn => hs n (by simp only [List.map_cons, DataW.weightsEach, List.mem_append]; exact .inl hn))
    obtain ⟨b, q1, q2, q3⟩ := h' enc w base spare held fuel cs r (by simpa using hl) (fun (i : Nat) (f : Field) hf => by simpa using hget (i + 1) f (by simpa using hf)) (by omega) (fun n hn => hs n (by simp only [List.map_cons, DataW.weightsEach, List.mem_append]; exact .inr hn))
    refine ⟨(a, b), ⟨(cs.drop o).take d.sz, cs.drop o', ?_, k1, q1⟩, ⟨k2, q2⟩, by simp only [List.map_cons, Rows.uptoBulkAll]; omega⟩
    rw [← hoo, ← List.drop_drop, List.take_append_drop]
theorem opens_struct {P : Program} {t : TypeId} {fs : Array Field} {α : Type} {d : Kd α} {g : α → Prop} {m : α → Nat} (ht : P.underlying t = some (.struct fs)) (hc : P.cellsOf t = d.sz) (h : OpensF P fs.toList 0 d g m) : Opens P t d g m := by
  intro H enc w base spare held fuel cs x hx hs
  obtain ⟨xs, n, rfl, rfl, hl, hxl, hget⟩ := DataW.trod_struct ht hx
  obtain ⟨a, h1, h2, h3⟩ := h enc w base spare held n cs xs (by simpa using hxl) (fun i f hf => hget i f (by simpa using hf)) (by omega) (fun n hn => hs n (by simpa only [DataW.weights, ht] using hn))
  refine ⟨a, by simpa using h1, h2, ?_⟩
  simp only [Rows.uptoBulk]
  omega
theorem opens_iso {P : Program} {t : TypeId} {α β : Type} {d : Kd α} {g : α → Prop} {m : α → Nat} {f : β → α} {b : α → β} (hfb : ∀ x, f (b x) = x) (h : Opens P t d g m) : Opens P t (Kd.iso d f) (fun x => g (f x)) (fun x => m (f x)) := by
  intro H enc w base spare held fuel cs x hx hs
  obtain ⟨a, h1, h2, h3⟩ := h enc w base spare held fuel cs x hx hs
  exact ⟨b a, by show d.K w (f (b a)) cs; rw [hfb]; exact h1, by show g (f (b a)); rw [hfb]; exact h2, by show m (f (b a)) ≤ _; rw [hfb]; exact h3⟩
theorem opens_mono {P : Program} {t : TypeId} {α : Type} {d : Kd α} {g g' : α → Prop} {m m' : α → Nat} (hg : ∀ x, g x → g' x) (hm : ∀ x, m' x ≤ m x) (h : Opens P t d g m) : Opens P t d g' m' := by
  intro H enc w base spare held fuel cs x hx hs
  obtain ⟨a, h1, h2, h3⟩ := h enc w base spare held fuel cs x hx hs
  exact ⟨a, h1, hg a h2, Nat.le_trans (hm a) h3⟩
theorem len_le_sum {α : Type} {m : α → Nat} (h : ∀ x, 1 ≤ m x) : ∀ l : List α, l.length ≤ (l.map m).sum
  | [] => by simp
  | x :: l => by have := h x; have := len_le_sum h l; simp only [List.length_cons, List.map_cons, List.sum_cons]; omega
theorem mem_le_sum {α : Type} {m : α → Nat} {x : α} : ∀ {l : List α}, x ∈ l → m x ≤ (l.map m).sum
  | [], h => by simp at h
  | y :: l, h => by
    simp only [List.map_cons, List.sum_cons]
    rcases List.mem_cons.1 h with rfl | h
    · omega
    · have := mem_le_sum (m := m) h; omega
end Go.Proofs.YtihdlalbgdighaaDoor.Op
/- How the arguments of layer 15 are opened into the print's kinds. -/
namespace Go.Proofs.YtihdlalbgdighaaDoor.QV
open Go.RowKit Go.Proofs.YtihdlalbgdighaaDoorW.PrintWords Go.Proofs.YtihdlalbgdighaaDoor.Op
set_option linter.unusedVariables false
theorem oS : Opens Tryd.prog 61 k61 (fun _ => True) (fun x => x.f3.size + 4) :=
  opens_mono (fun _ _ => trivial) (fun x => by simp only; omega)
    (opens_iso (b := fun x => ⟨x.1, x.2.1, x.2.2.1, x.2.2.2⟩) (fun _ => rfl) (opens_struct Tryd.underlying61 (by kernel_rfl)
      (opensF_cons rfl (by kernel_rfl) rfl (opens_int Tryd.underlying3) (opensF_cons rfl (by kernel_rfl) rfl (opens_bool Tryd.underlying4) (opensF_cons rfl (by kernel_rfl) rfl (opens_int Tryd.underlying2) (opensF_last rfl (by kernel_rfl) (opens_string Tryd.underlying9)))))))
theorem oSs : Opens Tryd.prog 62 (Kd.slice 61 k61) (fun xs => xs.length ≤ 9223372036854775807 ∧ xs.length * 40 ≤ 140737488351232) (fun xs => xs.length + 1) :=
  opens_mono (fun _ h => h.2) (fun xs => by have := len_le_sum (m := fun x : S61 => x.f3.size + 4) (fun _ => by omega) xs; omega) (opens_slice Tryd.underlying62 (by kernel_rfl) (by kernel_rfl) oS)
/-- Rows of values: how many, how long. -/
theorem oRows : Opens Tryd.prog 28 (Kd.slice 62 (Kd.slice 61 k61)) (fun xs => (∀ x ∈ xs, x.length * 40 ≤ 140737488351232) ∧ xs.length * 24 ≤ 140737488351232) (fun xs => (xs.map fun x => x.length + 1).sum + 1) :=
  opens_mono (fun _ h => ⟨fun x hx => (h.1 x hx).2, h.2.2⟩) (fun _ => Nat.le_refl _) (opens_slice Tryd.underlying28 (by kernel_rfl) (by kernel_rfl) oSs)
theorem rows_small {xs : List (List S61)} {n : Nat} (h : (xs.map fun x => x.length + 1).sum + 1 ≤ n) : (∀ x ∈ xs, x.length ≤ n) ∧ xs.length ≤ n := by
  refine ⟨fun x hx => ?_, ?_⟩
  · have := mem_le_sum (m := fun x : List S61 => x.length + 1) hx
    have this : x.length + 1 ≤ (xs.map fun x => x.length + 1).sum := this
    omega
  · have := len_le_sum (m := fun x : List S61 => x.length + 1) (fun _ => by omega) xs
    omega
end Go.Proofs.YtihdlalbgdighaaDoor.QV
/- Printed by mp.py (this session's) with the kit's print: plain functions with the answers of the Go code, and the proofs of it. -/
namespace Go.Proofs.YtihdlalbgdighaaDoor.QV
open Go.RowKit Go.Proofs.YtihdlalbgdighaaDoorW.PrintWords Go.Proofs.YtihdlalbgdighaaDoorW.PrintLast Go.Proofs.YtihdlalbgdighaaDoorW.PrintMore
attribute [local go_sem] max2_int min2_int max_two min_two max_three min_three max_four min_four   -- for this text's walks alone
set_option linter.unusedVariables false
set_option linter.unusedSimpArgs false

theorem eqA61 (d : Nat) (w : World) (x0 y0 : Int) (x1 y1 : Bool) (x2 y2 : Int) (x3 y3 : ByteArray) :
    (Op.equalIn (d + 2) 61 (.agg #[.int .i64 x0, .bool x1, .int .i64 x2, .string x3]) (.agg #[.int .i64 y0, .bool y1, .int .i64 y2, .string y3])).run Tryd.prog w = .ok (x0 == y0 && (x1 == y1 && (x2 == y2 && (x3.toList == y3.toList)))) w := by
  refine eqA_of Tryd.underlying61 (by kernel_rfl) ?_
  refine eqf_cons (by rfl) (by go_simp; rfl) (by go_simp; rfl) (by go_simp) ?_
  refine eqf_cons (by rfl) (by go_simp; rfl) (by go_simp; rfl) (by go_simp) ?_
  refine eqf_cons (by rfl) (by go_simp; rfl) (by go_simp; rfl) (by go_simp) ?_
  exact eqf_last (by rfl) (by go_simp; rfl) (by go_simp; rfl) (by go_simp)
end Go.Proofs.YtihdlalbgdighaaDoor.QV
/- Printed by mp.py (this session's) with the kit's print: plain functions with the answers of the Go code, and the proofs of it. -/
namespace Go.Proofs.YtihdlalbgdighaaDoor.QV
open Go.RowKit Go.Proofs.YtihdlalbgdighaaDoorW.PrintWords Go.Proofs.YtihdlalbgdighaaDoorW.PrintLast Go.Proofs.YtihdlalbgdighaaDoorW.PrintMore
attribute [local go_sem] max2_int min2_int max_two min_two max_three min_three max_four min_four   -- for this text's walks alone
set_option linter.unusedVariables false
set_option linter.unusedSimpArgs false

attribute [local go_sem high] eqA61
/-! ### hayloftref02_SameRow: function 29 -/
def hayloftref02_SameRow.l0 : Nat → List (S61) → List (S61) → Int → Option (Bool)
  | 0, _, _, _ => none
  | k + 1, x0, x1, x5 => if x5 < (x0.length : Int) then (if 0 ≤ x5 then (if x5 < (x1.length : Int) then (if (!(((rd_T61 x0 x5).f0) == ((rd_T61 x1 x5).f0)) || (!(((rd_T61 x0 x5).f1) == ((rd_T61 x1 x5).f1)) || (!(((rd_T61 x0 x5).f2) == ((rd_T61 x1 x5).f2)) || (!((((rd_T61 x0 x5).f3).toList) == (((rd_T61 x1 x5).f3).toList)))))) = true then (some false) else (hayloftref02_SameRow.l0 k x0 x1 (wrap64 (x5 + 1)))) else (none)) else (none)) else (some true)
def hayloftref02_SameRow.f (k : Nat) (l0 : List (S61)) (l1 : List (S61)) : Option (Bool) := if (l0.length : Int) = (l1.length : Int) then (hayloftref02_SameRow.l0 k l0 l1 0) else (some false)
set_option maxHeartbeats 8000000 in
set_option maxRecDepth 100000 in
theorem hayloftref02_SameRow.calls (k : Nat) (A0 : Option Addr) (c0 : Nat) (l0 : List (S61)) (A1 : Option Addr) (c1 : Nat) (l1 : List (S61)) (r : Bool) (w : World) (hr0 : Kd.C k61 w A0 l0.length l0) (hc0 : l0.length ≤ c0) (hr1 : Kd.C k61 w A1 l1.length l1) (hc1 : l1.length ≤ c1) (h : hayloftref02_SameRow.f k l0 l1 = some r) :
    Calls Tryd.prog 29 #[.slice A0 l0.length c0, .slice A1 l1.length c1] w fun e w' => e = .returned (.bool r) ∧ Drawn0 w w' := by
  have hu61 := Tryd.underlying61
  have HR0 := Aside0.mk hr0
  have HC0 := Aside0.mk hc0
  clear hr0 hc0
  have HR1 := Aside0.mk hr1
  have HC1 := Aside0.mk hc1
  clear hr1 hc1
  have H : (if (l0.length : Int) = (l1.length : Int) then (hayloftref02_SameRow.l0 k l0 l1 0) else (some false)) = some r := h
  clear h
  by_cases c3 : (l0.length : Int) = (l1.length : Int)
  · rw [if_pos c3] at H
    have c3b0 : ((l0.length : Int) == (l1.length : Int)) = true := beq_iff_eq.mpr c3
    have c3b1 : ((l0.length : Int) != (l1.length : Int)) = false := bne_eq_false_iff_eq.mpr c3
    have c3b2 : (l0.length == l1.length) = true := by first | simpa using c3 | (simp at c3 ⊢; omega)
    clear c3
    have H' := Aside0.mk H
    clear H
    go_enter Tryd.func29, Tryd.ntmps29
    go_wp2
    repeat (go_quiet (fail); try go_wp2)
    go_loopg [5] k (fun kq v5 w' => ∃ (x5_1 : Int), v5 = .int .i64 x5_1 ∧ Aside0 (hayloftref02_SameRow.l0 kq l0 l1 x5_1 = some r) ∧ Aside0 (kq ≤ k) ∧ Drawn0 w w')
    case atStart => exact ⟨(0), (by first | rfl | (simp; done) | (simp [*]; done)), H', ⟨Nat.le_refl _⟩, by repeat (first | exact Drawn0.refl _ | apply Drawn0.step)⟩
    case round =>
      clear H'
      try clear c1
      try clear c2
      try clear p2
      try clear c3
      try clear c3b0
      try clear c3b1
      try clear c3b2
      obtain ⟨x5_1, rfl, HA, HK1, ⟨m1, rfl⟩⟩ := hrel
      cases gk with
      | zero => exact absurd HA.out (by simp [hayloftref02_SameRow.l0])
      | succ k1 =>
        have H := HA.out
        clear HA
        simp only [hayloftref02_SameRow.l0] at H
        by_cases c4 : x5_1 < (l0.length : Int)
        · rw [if_pos c4] at H
          have c4b0 : decide (x5_1 < (l0.length : Int)) = true := decide_eq_true c4
          clear c4
          by_cases c5 : 0 ≤ x5_1
          · rw [if_pos c5] at H
            have c5b0 : decide (0 ≤ x5_1) = true := decide_eq_true c5
            clear c5
            by_cases c6 : x5_1 < (l1.length : Int)
            · rw [if_pos c6] at H
              have c6b0 : decide (x5_1 < (l1.length : Int)) = true := decide_eq_true c6
              clear c6
              by_cases c7 : (!(((rd_T61 l0 x5_1).f0) == ((rd_T61 l1 x5_1).f0)) || (!(((rd_T61 l0 x5_1).f1) == ((rd_T61 l1 x5_1).f1)) || (!(((rd_T61 l0 x5_1).f2) == ((rd_T61 l1 x5_1).f2)) || (!((((rd_T61 l0 x5_1).f3).toList) == (((rd_T61 l1 x5_1).f3).toList)))))) = true
              · rw [if_pos c7] at H
                have c7b0 : (!(((rd_T61 l0 x5_1).f0) == ((rd_T61 l1 x5_1).f0)) || (!(((rd_T61 l0 x5_1).f1) == ((rd_T61 l1 x5_1).f1)) || (!(((rd_T61 l0 x5_1).f2) == ((rd_T61 l1 x5_1).f2)) || (!((((rd_T61 l0 x5_1).f3).toList) == (((rd_T61 l1 x5_1).f3).toList)))))) = true := c7
                clear c7
                obtain rfl := Option.some.inj H
                have p101 : 0 ≤ (x5_1 : Int) := of_decide_eq_true (by first | (with_reducible assumption) | assumption)
                have q101 : x5_1 < (l0.length : Int) := of_decide_eq_true (by first | (with_reducible assumption) | assumption)
                obtain ⟨ad101, e101, hx101_0, hx101_1, hx101_2, hx101_3⟩ := at_T61 HR0.out x5_1 p101 q101
                cases e101
                replace p101 := eq_true p101
                replace q101 := eq_true q101
                have p102 : 0 ≤ (x5_1 : Int) := of_decide_eq_true (by first | (with_reducible assumption) | assumption)
                have q102 : x5_1 < (l1.length : Int) := of_decide_eq_true (by first | (with_reducible assumption) | assumption)
                obtain ⟨ad102, e102, hx102_0, hx102_1, hx102_2, hx102_3⟩ := at_T61 HR1.out x5_1 p102 q102
                cases e102
                replace p102 := eq_true p102
                replace q102 := eq_true q102
                go_wp2
                repeat (go_quiet (fail); try go_wp2)
                go_ret
                exact ⟨by first | rfl | (simp; done) | (simp [*]; done), by repeat (first | exact Drawn0.refl _ | apply Drawn0.step)⟩
              · rw [if_neg c7] at H
                have c7b0 : (!(((rd_T61 l0 x5_1).f0) == ((rd_T61 l1 x5_1).f0)) || (!(((rd_T61 l0 x5_1).f1) == ((rd_T61 l1 x5_1).f1)) || (!(((rd_T61 l0 x5_1).f2) == ((rd_T61 l1 x5_1).f2)) || (!((((rd_T61 l0 x5_1).f3).toList) == (((rd_T61 l1 x5_1).f3).toList)))))) = false := by simpa using c7
                clear c7
                have H' := Aside0.mk H
                clear H
                have p101 : 0 ≤ (x5_1 : Int) := of_decide_eq_true (by first | (with_reducible assumption) | assumption)
                have q101 : x5_1 < (l0.length : Int) := of_decide_eq_true (by first | (with_reducible assumption) | assumption)
                obtain ⟨ad101, e101, hx101_0, hx101_1, hx101_2, hx101_3⟩ := at_T61 HR0.out x5_1 p101 q101
                cases e101
                replace p101 := eq_true p101
                replace q101 := eq_true q101
                have p102 : 0 ≤ (x5_1 : Int) := of_decide_eq_true (by first | (with_reducible assumption) | assumption)
                have q102 : x5_1 < (l1.length : Int) := of_decide_eq_true (by first | (with_reducible assumption) | assumption)
                obtain ⟨ad102, e102, hx102_0, hx102_1, hx102_2, hx102_3⟩ := at_T61 HR1.out x5_1 p102 q102
                cases e102
                replace p102 := eq_true p102
                replace q102 := eq_true q102
                go_wp2
                repeat (go_quiet (fail); try go_wp2)
                go_roundg k1
                case measure => have := HK1.out; omega
                case rel => exact ⟨(wrap64 (x5_1 + 1)), (by first | rfl | (simp; done) | (simp [*]; done)), H', ⟨by have := HK1.out; omega⟩, by repeat (first | exact Drawn0.refl _ | apply Drawn0.step)⟩
            · rw [if_neg c6] at H
              exact absurd H (by simp)
          · rw [if_neg c5] at H
            exact absurd H (by simp)
        · rw [if_neg c4] at H
          have c4b0 : decide (x5_1 < (l0.length : Int)) = false := decide_eq_false c4
          clear c4
          obtain rfl := Option.some.inj H
          go_wp2
          repeat (go_quiet (fail); try go_wp2)
          go_ret
          exact ⟨by first | rfl | (simp; done) | (simp [*]; done), by repeat (first | exact Drawn0.refl _ | apply Drawn0.step)⟩
  · rw [if_neg c3] at H
    have c3b0 : ((l0.length : Int) == (l1.length : Int)) = false := beq_eq_false_iff_ne.mpr c3
    have c3b1 : ((l0.length : Int) != (l1.length : Int)) = true := bne_iff_ne.mpr c3
    have c3b2 : (l0.length == l1.length) = false := by first | simpa using c3 | (simp at c3 ⊢; omega)
    obtain rfl := Option.some.inj H
    go_enter Tryd.func29, Tryd.ntmps29
    go_wp2
    repeat (go_quiet (fail); try go_wp2)
    go_ret
    exact ⟨by first | rfl | (simp; done) | (simp [*]; done), by repeat (first | exact Drawn0.refl _ | apply Drawn0.step)⟩

/-! ### hayloftref02_SameAll: function 9 -/
def hayloftref02_SameAll.l0 : Nat → List (List (S61)) → List (List (S61)) → Int → Option (Bool)
  | 0, _, _, _ => none
  | k + 1, x0, x1, x5 => if x5 < (x0.length : Int) then (if 0 ≤ x5 then (if x5 < (x1.length : Int) then ((hayloftref02_SameRow.f k (rd_L4 x0 x5) (rd_L4 x1 x5)).bind fun t105 => (if t105 = true then (hayloftref02_SameAll.l0 k x0 x1 (wrap64 (x5 + 1))) else (some false))) else (none)) else (none)) else (some true)
def hayloftref02_SameAll.f (k : Nat) (l0 : List (List (S61))) (l1 : List (List (S61))) : Option (Bool) := if (l0.length : Int) = (l1.length : Int) then (hayloftref02_SameAll.l0 k l0 l1 0) else (some false)
set_option maxHeartbeats 8000000 in
set_option maxRecDepth 100000 in
theorem hayloftref02_SameAll.calls (k : Nat) (A0 : Option Addr) (c0 : Nat) (l0 : List (List (S61))) (A1 : Option Addr) (c1 : Nat) (l1 : List (List (S61))) (r : Bool) (w : World) (hr0 : Kd.C (Kd.slice 61 k61) w A0 l0.length l0) (hc0 : l0.length ≤ c0) (hr1 : Kd.C (Kd.slice 61 k61) w A1 l1.length l1) (hc1 : l1.length ≤ c1) (h : hayloftref02_SameAll.f k l0 l1 = some r) :
    Calls Tryd.prog 9 #[.slice A0 l0.length c0, .slice A1 l1.length c1] w fun e w' => e = .returned (.bool r) ∧ Drawn0 w w' := by
  have HR0 := Aside0.mk hr0
  have HC0 := Aside0.mk hc0
  clear hr0 hc0
  have HR1 := Aside0.mk hr1
  have HC1 := Aside0.mk hc1
  clear hr1 hc1
  have H : (if (l0.length : Int) = (l1.length : Int) then (hayloftref02_SameAll.l0 k l0 l1 0) else (some false)) = some r := h
  clear h
  by_cases c3 : (l0.length : Int) = (l1.length : Int)
  · rw [if_pos c3] at H
    have c3b0 : ((l0.length : Int) == (l1.length : Int)) = true := beq_iff_eq.mpr c3
    have c3b1 : ((l0.length : Int) != (l1.length : Int)) = false := bne_eq_false_iff_eq.mpr c3
    have c3b2 : (l0.length == l1.length) = true := by first | simpa using c3 | (simp at c3 ⊢; omega)
    clear c3
    have H' := Aside0.mk H
    clear H
    go_enter Tryd.func9, Tryd.ntmps9
    go_wp2
    repeat (go_quiet (fail); try go_wp2)
    go_loopg [5] k (fun kq v5 w' => ∃ (x5_1 : Int), v5 = .int .i64 x5_1 ∧ Aside0 (hayloftref02_SameAll.l0 kq l0 l1 x5_1 = some r) ∧ Aside0 (kq ≤ k) ∧ Drawn0 w w')
    case atStart => exact ⟨(0), (by first | rfl | (simp; done) | (simp [*]; done)), H', ⟨Nat.le_refl _⟩, by repeat (first | exact Drawn0.refl _ | apply Drawn0.step)⟩
    case round =>
      clear H'
      try clear c1
      try clear p2
      try clear c3
      try clear c3b0
      try clear c3b1
      try clear c3b2
      obtain ⟨x5_1, rfl, HA, HK1, ⟨m1, rfl⟩⟩ := hrel
      cases gk with
      | zero => exact absurd HA.out (by simp [hayloftref02_SameAll.l0])
      | succ k1 =>
        have H := HA.out
        clear HA
        simp only [hayloftref02_SameAll.l0] at H
        by_cases c4 : x5_1 < (l0.length : Int)
        · rw [if_pos c4] at H
          have c4b0 : decide (x5_1 < (l0.length : Int)) = true := decide_eq_true c4
          clear c4
          by_cases c5 : 0 ≤ x5_1
          · rw [if_pos c5] at H
            have c5b0 : decide (0 ≤ x5_1) = true := decide_eq_true c5
            clear c5
            by_cases c6 : x5_1 < (l1.length : Int)
            · rw [if_pos c6] at H
              have c6b0 : decide (x5_1 < (l1.length : Int)) = true := decide_eq_true c6
              clear c6
              replace H := Option.bind_eq_some_iff.mp H
              obtain ⟨t105, A70, H⟩ := H
              replace H : (if t105 = true then (hayloftref02_SameAll.l0 k1 l0 l1 (wrap64 (x5_1 + 1))) else (some false)) = some r := H
              have A7 := Aside0.mk A70
              clear A70
              by_cases c8 : t105 = true
              · subst c8
                have H1 : (hayloftref02_SameAll.l0 k1 l0 l1 (wrap64 (x5_1 + 1))) = some r := by rw [if_pos rfl] at H; exact H
                clear H
                have H := H1
                clear H1
                have H' := Aside0.mk H
                clear H
                have p103 : 0 ≤ (x5_1 : Int) := of_decide_eq_true (by first | (with_reducible assumption) | assumption)
                have q103 : x5_1 < (l0.length : Int) := of_decide_eq_true (by first | (with_reducible assumption) | assumption)
                obtain ⟨ad103, A103_0, c103_0, e103, hx103_0, hl103_0, hi103_0⟩ := at_L4 HR0.out x5_1 p103 q103
                cases e103
                have HR103_0 := Aside0.mk hi103_0
                have HC103_0 := Aside0.mk hl103_0
                clear hi103_0 hl103_0
                replace p103 := eq_true p103
                replace q103 := eq_true q103
                have p104 : 0 ≤ (x5_1 : Int) := of_decide_eq_true (by first | (with_reducible assumption) | assumption)
                have q104 : x5_1 < (l1.length : Int) := of_decide_eq_true (by first | (with_reducible assumption) | assumption)
                obtain ⟨ad104, A104_0, c104_0, e104, hx104_0, hl104_0, hi104_0⟩ := at_L4 HR1.out x5_1 p104 q104
                cases e104
                have HR104_0 := Aside0.mk hi104_0
                have HC104_0 := Aside0.mk hl104_0
                clear hi104_0 hl104_0
                replace p104 := eq_true p104
                replace q104 := eq_true q104
                go_wp2_with (first | (go_at_call 29; (with_reducible refine (hayloftref02_SameRow.calls k1 _ _ (rd_L4 l0 x5_1) _ _ (rd_L4 l1 x5_1) true _ ?side1 ?side2 ?side3 ?side4 A7.out).mono ?_); (case side1 => repeat (first | exact HR103_0.out | (with_reducible refine Kd.C_alloc ?_ _) | (with_reducible refine Kd.C_drewN ?_ _) | (with_reducible refine Kd.C_drew ?_))); (case side2 => exact HC103_0.out); (case side3 => repeat (first | exact HR104_0.out | (with_reducible refine Kd.C_alloc ?_ _) | (with_reducible refine Kd.C_drewN ?_ _) | (with_reducible refine Kd.C_drew ?_))); (case side4 => exact HC104_0.out); rintro e w' ⟨rfl, ⟨nd, rfl⟩⟩; (try first | exact ⟨rfl, _, World.drewN_drewN _ _ _⟩ | exact ⟨rfl, _, Eq.trans (World.drewN_drewN _ _ _) (congrArg (World.drewN _) (Nat.add_assoc _ _ _))⟩)))
                repeat (go_quiet (first | (go_at_call 29; (with_reducible refine (hayloftref02_SameRow.calls k1 _ _ (rd_L4 l0 x5_1) _ _ (rd_L4 l1 x5_1) true _ ?side1 ?side2 ?side3 ?side4 A7.out).mono ?_); (case side1 => repeat (first | exact HR103_0.out | (with_reducible refine Kd.C_alloc ?_ _) | (with_reducible refine Kd.C_drewN ?_ _) | (with_reducible refine Kd.C_drew ?_))); (case side2 => exact HC103_0.out); (case side3 => repeat (first | exact HR104_0.out | (with_reducible refine Kd.C_alloc ?_ _) | (with_reducible refine Kd.C_drewN ?_ _) | (with_reducible refine Kd.C_drew ?_))); (case side4 => exact HC104_0.out); rintro e w' ⟨rfl, ⟨nd, rfl⟩⟩; (try first | exact ⟨rfl, _, World.drewN_drewN _ _ _⟩ | exact ⟨rfl, _, Eq.trans (World.drewN_drewN _ _ _) (congrArg (World.drewN _) (Nat.add_assoc _ _ _))⟩))); try go_wp2_with (first | (go_at_call 29; (with_reducible refine (hayloftref02_SameRow.calls k1 _ _ (rd_L4 l0 x5_1) _ _ (rd_L4 l1 x5_1) true _ ?side1 ?side2 ?side3 ?side4 A7.out).mono ?_); (case side1 => repeat (first | exact HR103_0.out | (with_reducible refine Kd.C_alloc ?_ _) | (with_reducible refine Kd.C_drewN ?_ _) | (with_reducible refine Kd.C_drew ?_))); (case side2 => exact HC103_0.out); (case side3 => repeat (first | exact HR104_0.out | (with_reducible refine Kd.C_alloc ?_ _) | (with_reducible refine Kd.C_drewN ?_ _) | (with_reducible refine Kd.C_drew ?_))); (case side4 => exact HC104_0.out); rintro e w' ⟨rfl, ⟨nd, rfl⟩⟩; (try first | exact ⟨rfl, _, World.drewN_drewN _ _ _⟩ | exact ⟨rfl, _, Eq.trans (World.drewN_drewN _ _ _) (congrArg (World.drewN _) (Nat.add_assoc _ _ _))⟩))))
                go_roundg k1
                case measure => have := HK1.out; omega
                case rel => exact ⟨(wrap64 (x5_1 + 1)), (by first | rfl | (simp; done) | (simp [*]; done)), H', ⟨by have := HK1.out; omega⟩, by repeat (first | exact Drawn0.refl _ | apply Drawn0.step)⟩
              · replace c8 := Bool.eq_false_iff.mpr c8
                subst c8
                have H1 : (some false) = some r := by rw [if_neg (show ¬ (false = true) by decide)] at H; exact H
                clear H
                have H := H1
                clear H1
                obtain rfl := Option.some.inj H
                have p103 : 0 ≤ (x5_1 : Int) := of_decide_eq_true (by first | (with_reducible assumption) | assumption)
                have q103 : x5_1 < (l0.length : Int) := of_decide_eq_true (by first | (with_reducible assumption) | assumption)
                obtain ⟨ad103, A103_0, c103_0, e103, hx103_0, hl103_0, hi103_0⟩ := at_L4 HR0.out x5_1 p103 q103
                cases e103
                have HR103_0 := Aside0.mk hi103_0
                have HC103_0 := Aside0.mk hl103_0
                clear hi103_0 hl103_0
                replace p103 := eq_true p103
                replace q103 := eq_true q103
                have p104 : 0 ≤ (x5_1 : Int) := of_decide_eq_true (by first | (with_reducible assumption) | assumption)
                have q104 : x5_1 < (l1.length : Int) := of_decide_eq_true (by first | (with_reducible assumption) | assumption)
                obtain ⟨ad104, A104_0, c104_0, e104, hx104_0, hl104_0, hi104_0⟩ := at_L4 HR1.out x5_1 p104 q104
                cases e104
                have HR104_0 := Aside0.mk hi104_0
                have HC104_0 := Aside0.mk hl104_0
                clear hi104_0 hl104_0
                replace p104 := eq_true p104
                replace q104 := eq_true q104
                go_wp2_with (first | (go_at_call 29; (with_reducible refine (hayloftref02_SameRow.calls k1 _ _ (rd_L4 l0 x5_1) _ _ (rd_L4 l1 x5_1) false _ ?side1 ?side2 ?side3 ?side4 A7.out).mono ?_); (case side1 => repeat (first | exact HR103_0.out | (with_reducible refine Kd.C_alloc ?_ _) | (with_reducible refine Kd.C_drewN ?_ _) | (with_reducible refine Kd.C_drew ?_))); (case side2 => exact HC103_0.out); (case side3 => repeat (first | exact HR104_0.out | (with_reducible refine Kd.C_alloc ?_ _) | (with_reducible refine Kd.C_drewN ?_ _) | (with_reducible refine Kd.C_drew ?_))); (case side4 => exact HC104_0.out); rintro e w' ⟨rfl, ⟨nd, rfl⟩⟩; (try first | exact ⟨rfl, _, World.drewN_drewN _ _ _⟩ | exact ⟨rfl, _, Eq.trans (World.drewN_drewN _ _ _) (congrArg (World.drewN _) (Nat.add_assoc _ _ _))⟩)))
                repeat (go_quiet (first | (go_at_call 29; (with_reducible refine (hayloftref02_SameRow.calls k1 _ _ (rd_L4 l0 x5_1) _ _ (rd_L4 l1 x5_1) false _ ?side1 ?side2 ?side3 ?side4 A7.out).mono ?_); (case side1 => repeat (first | exact HR103_0.out | (with_reducible refine Kd.C_alloc ?_ _) | (with_reducible refine Kd.C_drewN ?_ _) | (with_reducible refine Kd.C_drew ?_))); (case side2 => exact HC103_0.out); (case side3 => repeat (first | exact HR104_0.out | (with_reducible refine Kd.C_alloc ?_ _) | (with_reducible refine Kd.C_drewN ?_ _) | (with_reducible refine Kd.C_drew ?_))); (case side4 => exact HC104_0.out); rintro e w' ⟨rfl, ⟨nd, rfl⟩⟩; (try first | exact ⟨rfl, _, World.drewN_drewN _ _ _⟩ | exact ⟨rfl, _, Eq.trans (World.drewN_drewN _ _ _) (congrArg (World.drewN _) (Nat.add_assoc _ _ _))⟩))); try go_wp2_with (first | (go_at_call 29; (with_reducible refine (hayloftref02_SameRow.calls k1 _ _ (rd_L4 l0 x5_1) _ _ (rd_L4 l1 x5_1) false _ ?side1 ?side2 ?side3 ?side4 A7.out).mono ?_); (case side1 => repeat (first | exact HR103_0.out | (with_reducible refine Kd.C_alloc ?_ _) | (with_reducible refine Kd.C_drewN ?_ _) | (with_reducible refine Kd.C_drew ?_))); (case side2 => exact HC103_0.out); (case side3 => repeat (first | exact HR104_0.out | (with_reducible refine Kd.C_alloc ?_ _) | (with_reducible refine Kd.C_drewN ?_ _) | (with_reducible refine Kd.C_drew ?_))); (case side4 => exact HC104_0.out); rintro e w' ⟨rfl, ⟨nd, rfl⟩⟩; (try first | exact ⟨rfl, _, World.drewN_drewN _ _ _⟩ | exact ⟨rfl, _, Eq.trans (World.drewN_drewN _ _ _) (congrArg (World.drewN _) (Nat.add_assoc _ _ _))⟩))))
                go_ret
                exact ⟨by first | rfl | (simp; done) | (simp [*]; done), by repeat (first | exact Drawn0.refl _ | apply Drawn0.step)⟩
            · rw [if_neg c6] at H
              exact absurd H (by simp)
          · rw [if_neg c5] at H
            exact absurd H (by simp)
        · rw [if_neg c4] at H
          have c4b0 : decide (x5_1 < (l0.length : Int)) = false := decide_eq_false c4
          clear c4
          obtain rfl := Option.some.inj H
          go_wp2
          repeat (go_quiet (fail); try go_wp2)
          go_ret
          exact ⟨by first | rfl | (simp; done) | (simp [*]; done), by repeat (first | exact Drawn0.refl _ | apply Drawn0.step)⟩
  · rw [if_neg c3] at H
    have c3b0 : ((l0.length : Int) == (l1.length : Int)) = false := beq_eq_false_iff_ne.mpr c3
    have c3b1 : ((l0.length : Int) != (l1.length : Int)) = true := bne_iff_ne.mpr c3
    have c3b2 : (l0.length == l1.length) = false := by first | simpa using c3 | (simp at c3 ⊢; omega)
    obtain rfl := Option.some.inj H
    go_enter Tryd.func9, Tryd.ntmps9
    go_wp2
    repeat (go_quiet (fail); try go_wp2)
    go_ret
    exact ⟨by first | rfl | (simp; done) | (simp [*]; done), by repeat (first | exact Drawn0.refl _ | apply Drawn0.step)⟩

/-! ### value_Null: function 77 -/
def value_Null.f  : Option (Int × Bool × Int × ByteArray) := some (0, false, 0, (⟨#[]⟩ : ByteArray))
set_option maxHeartbeats 8000000 in
set_option maxRecDepth 100000 in
theorem value_Null.calls  (r1 : Int) (r2 : Bool) (r3 : Int) (r4 : ByteArray) (w : World) (h : value_Null.f  = some (r1, r2, r3, r4)) :
    Calls Tryd.prog 77 #[] w fun e w' => e = .returned (.agg #[.int .i64 r1, .bool r2, .int .i64 r3, .string r4]) ∧ Below w.heap.size w w' := by
  have hu61 := Tryd.underlying61
  have HB := Aside0.mk (Below.refl w.heap.size w)
  have H : (some (0, false, 0, (⟨#[]⟩ : ByteArray))) = some (r1, r2, r3, r4) := h
  clear h
  simp only [Option.some.injEq, Prod.mk.injEq] at H
  obtain ⟨rfl, rfl, rfl, rfl⟩ := H
  go_enter Tryd.func77, Tryd.ntmps77
  go_wp2_with (first | ((with_reducible refine gate_dst (N := 0) rfl ?_); refine box_event ?hg (N := 0) ?hd (cs := #[.int .i64 0, .bool false, .int .i64 0, .string (⟨#[]⟩ : ByteArray)]) (t := 61) ?hr ?_; (case hd => rfl); (case hg => rfl); (case hr => first | (go_simp; done) | (go_simp; rfl)); intro gb106 hg w1 hbox hb; have n0_ := Aside0.mk (below_step (by repeat (first | (with_reducible first | exact HB.out | apply below_alloc | apply pw_below_drewN | apply below_drew1) | exact HB.out)) hb); have n1_ := Aside0.mk (hbox); have n2_ := Aside0.mk ((by rw [hg]; exact (below_size (by repeat (first | (with_reducible first | exact HB.out | apply below_alloc | apply pw_below_drewN | apply below_drew1) | exact HB.out))) : w.heap.size ≤ gb106)); have n3_ := Aside0.mk ((by rw [hg]; exact (below_size (by repeat (first | (with_reducible first | exact HB.out | apply below_alloc | apply pw_below_drewN | apply below_drew1) | exact HB.out))) : w.heap.size ≤ gb106)); clear HB; have HB := n0_; have BK106 := n1_; have GW106 := n2_; have GE106 := n3_; clear n0_ n1_ n2_ n3_; clear hb hbox hg; have hcz2_0 : w1.cell? ⟨gb106, 0, none⟩ = some (.int .i64 0) := (blk_cell BK106.out 0).trans rfl; have hcz2_1 : w1.cell? ⟨gb106, 1, none⟩ = some (.bool false) := (blk_cell BK106.out 1).trans rfl; have hcz2_2 : w1.cell? ⟨gb106, 2, none⟩ = some (.int .i64 0) := (blk_cell BK106.out 2).trans rfl; have hcz2_3 : w1.cell? ⟨gb106, 3, none⟩ = some (.string (⟨#[]⟩ : ByteArray)) := (blk_cell BK106.out 3).trans rfl; have hfz2_0 := blk_frozen BK106.out 0; have hfz2_1 := blk_frozen BK106.out 1; have hfz2_2 := blk_frozen BK106.out 2; have hfz2_3 := blk_frozen BK106.out 3))
  refine bodyPost_ret (results_cell_row rfl _ _ gb106 61 #[.int .i64 0, .bool false, .int .i64 0, .string (⟨#[]⟩ : ByteArray)] (0, 0) _ rfl (by (with_reducible repeat (first | refine blk_drewN ?_ _ | refine blk_drew ?_ | refine blk_alloc ?_ _)); refine blk_put (cs := #[.int .i64 0, .bool false, .int .i64 0, .string (⟨#[]⟩ : ByteArray)]) ?_ 3 _ rfl; (with_reducible repeat (first | refine blk_drewN ?_ _ | refine blk_drew ?_ | refine blk_alloc ?_ _)); refine blk_put (cs := #[.int .i64 0, .bool false, .int .i64 0, .string (⟨#[]⟩ : ByteArray)]) ?_ 2 _ rfl; (with_reducible repeat (first | refine blk_drewN ?_ _ | refine blk_drew ?_ | refine blk_alloc ?_ _)); refine blk_put (cs := #[.int .i64 0, .bool false, .int .i64 0, .string (⟨#[]⟩ : ByteArray)]) ?_ 1 _ rfl; (with_reducible repeat (first | refine blk_drewN ?_ _ | refine blk_drew ?_ | refine blk_alloc ?_ _)); refine blk_put (cs := #[.int .i64 0, .bool false, .int .i64 0, .string (⟨#[]⟩ : ByteArray)]) ?_ 0 _ rfl; (with_reducible repeat (first | refine blk_drewN ?_ _ | refine blk_drew ?_ | refine blk_alloc ?_ _)); exact BK106.out) Tryd.underlying61 rfl (by kernel_rfl)) rfl ?_
  exact ⟨by first | rfl | (simp [errW_none, errW_some] <;> rfl) | (simp [*, errW_none, errW_some] <;> rfl), by repeat (first | (with_reducible first | exact HB.out | apply below_alloc | apply pw_below_drewN | apply below_drew1 | refine below_set ?_ GE106.out) | exact HB.out)⟩

/-! ### exec_at: function 47 -/
def exec_at.f (l0 : List (S61)) (a1 : Int) : Option (Int × Bool × Int × ByteArray) := if a1 < 0 then ((value_Null.f).bind fun bt108 => (some (bt108.1, bt108.2.1, bt108.2.2.1, bt108.2.2.2))) else (if a1 ≥ (l0.length : Int) then ((value_Null.f).bind fun bt112 => (some (bt112.1, bt112.2.1, bt112.2.2.1, bt112.2.2.2))) else (if 0 ≤ a1 then (if a1 < (l0.length : Int) then (some ((rd_T61 l0 a1).f0, (rd_T61 l0 a1).f1, (rd_T61 l0 a1).f2, (rd_T61 l0 a1).f3)) else (none)) else (none)))
set_option maxHeartbeats 8000000 in
set_option maxRecDepth 100000 in
theorem exec_at.calls (A0 : Option Addr) (c0 : Nat) (l0 : List (S61)) (a1 : Int) (r1 : Int) (r2 : Bool) (r3 : Int) (r4 : ByteArray) (w : World) (hr0 : Kd.C k61 w A0 l0.length l0) (hc0 : l0.length ≤ c0) (h : exec_at.f l0 a1 = some (r1, r2, r3, r4)) :
    Calls Tryd.prog 47 #[.slice A0 l0.length c0, .int .i64 a1] w fun e w' => e = .returned (.agg #[.int .i64 r1, .bool r2, .int .i64 r3, .string r4]) ∧ Below w.heap.size w w' := by
  have hu61 := Tryd.underlying61
  have HR0 := Aside0.mk hr0
  have HC0 := Aside0.mk hc0
  clear hr0 hc0
  have HB := Aside0.mk (Below.refl w.heap.size w)
  have H : (if a1 < 0 then ((value_Null.f).bind fun bt108 => (some (bt108.1, bt108.2.1, bt108.2.2.1, bt108.2.2.2))) else (if a1 ≥ (l0.length : Int) then ((value_Null.f).bind fun bt112 => (some (bt112.1, bt112.2.1, bt112.2.2.1, bt112.2.2.2))) else (if 0 ≤ a1 then (if a1 < (l0.length : Int) then (some ((rd_T61 l0 a1).f0, (rd_T61 l0 a1).f1, (rd_T61 l0 a1).f2, (rd_T61 l0 a1).f3)) else (none)) else (none)))) = some (r1, r2, r3, r4) := h
  clear h
  by_cases c3 : a1 < 0
  · rw [if_pos c3] at H
    have c3b0 : decide (a1 < 0) = true := decide_eq_true c3
    clear c3
    replace H := Option.bind_eq_some_iff.mp H
    obtain ⟨⟨t108, t109, t110, t111⟩, A40, H⟩ := H
    replace H : (some (t108, t109, t110, t111)) = some (r1, r2, r3, r4) := H
    have A4 := Aside0.mk A40
    clear A40
    simp only [Option.some.injEq, Prod.mk.injEq] at H
    obtain ⟨rfl, rfl, rfl, rfl⟩ := H
    go_enter Tryd.func47, Tryd.ntmps47
    go_wp2_with (first | ((with_reducible refine gate_dst (N := 4) rfl ?_); (try (refine gate_guard (by rfl) ?_; dsimp only)); refine box_event ?hg (N := 4) ?hd (cs := #[.int .i64 0, .bool false, .int .i64 0, .string (⟨#[]⟩ : ByteArray)]) (t := 61) ?hr ?_; (case hd => rfl); (case hg => rfl); (case hr => first | (go_simp; done) | (go_simp; rfl)); intro gb107 hg w5 hbox hb; have n0_ := Aside0.mk (below_step (by repeat (first | (with_reducible first | exact HB.out | apply below_alloc | apply pw_below_drewN | apply below_drew1) | exact HB.out)) hb); have n1_ := Aside0.mk (hbox); have n2_ := Aside0.mk ((by rw [hg]; exact (below_size (by repeat (first | (with_reducible first | exact HB.out | apply below_alloc | apply pw_below_drewN | apply below_drew1) | exact HB.out))) : w.heap.size ≤ gb107)); have n3_ := Aside0.mk ((by rw [hg]; exact (below_size (by repeat (first | (with_reducible first | exact HB.out | apply below_alloc | apply pw_below_drewN | apply below_drew1) | exact HB.out))) : w.heap.size ≤ gb107)); clear HB; have HB := n0_; have BK107 := n1_; have GW107 := n2_; have GE107 := n3_; clear n0_ n1_ n2_ n3_; clear hb hbox hg) | ((with_reducible refine gate_callee (f := 77) rfl ?_); refine goesL_ (some 13) rfl rfl Tryd.func77 (by kernel_rfl) rfl #[] rfl (by (try simp only [List.map_toArray, List.map_cons, List.map_nil]); first | done | rfl | (simp only [List.length_drop, List.length_take]; rfl)) ?_; (with_reducible refine (value_Null.calls  t108 t109 t110 t111 _ A4.out).mono ?_); rintro e w6 ⟨rfl, hb⟩; refine ⟨_, rfl, ?_⟩; have n0_ := Aside0.mk (blk_below (g := gb107) (o := .cells #[.int .i64 0, .bool false, .int .i64 0, .string (⟨#[]⟩ : ByteArray)] 61 (0, 0)) (by (with_reducible repeat (first | refine blk_drewN ?_ _ | refine blk_drew ?_ | refine blk_alloc ?_ _)); exact BK107.out) hb); have n1_ := Aside0.mk (below_step (by repeat (first | (with_reducible first | exact HB.out | apply below_alloc | apply pw_below_drewN | apply below_drew1 | refine below_set ?_ GE107.out) | exact HB.out)) hb); clear BK107; clear HB; have BK107 := n0_; have HB := n1_; clear n0_ n1_; (try clear hb); (try clear hb2); (try clear hk); (try clear hi); have hcz7_0 : w6.cell? ⟨gb107, 0, none⟩ = some (.int .i64 0) := (blk_cell BK107.out 0).trans rfl; have hcz7_1 : w6.cell? ⟨gb107, 1, none⟩ = some (.bool false) := (blk_cell BK107.out 1).trans rfl; have hcz7_2 : w6.cell? ⟨gb107, 2, none⟩ = some (.int .i64 0) := (blk_cell BK107.out 2).trans rfl; have hcz7_3 : w6.cell? ⟨gb107, 3, none⟩ = some (.string (⟨#[]⟩ : ByteArray)) := (blk_cell BK107.out 3).trans rfl; have hfz7_0 := blk_frozen BK107.out 0; have hfz7_1 := blk_frozen BK107.out 1; have hfz7_2 := blk_frozen BK107.out 2; have hfz7_3 := blk_frozen BK107.out 3))
    refine bodyPost_ret (results_cell_row rfl _ _ gb107 61 #[.int .i64 t108, .bool t109, .int .i64 t110, .string t111] (0, 0) _ rfl (by (with_reducible repeat (first | refine blk_drewN ?_ _ | refine blk_drew ?_ | refine blk_alloc ?_ _)); refine blk_put (cs := #[.int .i64 t108, .bool t109, .int .i64 t110, .string (⟨#[]⟩ : ByteArray)]) ?_ 3 _ rfl; (with_reducible repeat (first | refine blk_drewN ?_ _ | refine blk_drew ?_ | refine blk_alloc ?_ _)); refine blk_put (cs := #[.int .i64 t108, .bool t109, .int .i64 0, .string (⟨#[]⟩ : ByteArray)]) ?_ 2 _ rfl; (with_reducible repeat (first | refine blk_drewN ?_ _ | refine blk_drew ?_ | refine blk_alloc ?_ _)); refine blk_put (cs := #[.int .i64 t108, .bool false, .int .i64 0, .string (⟨#[]⟩ : ByteArray)]) ?_ 1 _ rfl; (with_reducible repeat (first | refine blk_drewN ?_ _ | refine blk_drew ?_ | refine blk_alloc ?_ _)); refine blk_put (cs := #[.int .i64 0, .bool false, .int .i64 0, .string (⟨#[]⟩ : ByteArray)]) ?_ 0 _ rfl; (with_reducible repeat (first | refine blk_drewN ?_ _ | refine blk_drew ?_ | refine blk_alloc ?_ _)); exact BK107.out) Tryd.underlying61 rfl (by kernel_rfl)) rfl ?_
    exact ⟨by first | rfl | (simp [errW_none, errW_some] <;> rfl) | (simp [*, errW_none, errW_some] <;> rfl), by repeat (first | (with_reducible first | exact HB.out | apply below_alloc | apply pw_below_drewN | apply below_drew1 | refine below_set ?_ GE107.out) | exact HB.out)⟩
  · rw [if_neg c3] at H
    have c3b0 : decide (a1 < 0) = false := decide_eq_false c3
    clear c3
    by_cases c8 : a1 ≥ (l0.length : Int)
    · rw [if_pos c8] at H
      have c8b0 : decide ((l0.length : Int) ≤ a1) = true := decide_eq_true c8
      clear c8
      replace H := Option.bind_eq_some_iff.mp H
      obtain ⟨⟨t112, t113, t114, t115⟩, A90, H⟩ := H
      replace H : (some (t112, t113, t114, t115)) = some (r1, r2, r3, r4) := H
      have A9 := Aside0.mk A90
      clear A90
      simp only [Option.some.injEq, Prod.mk.injEq] at H
      obtain ⟨rfl, rfl, rfl, rfl⟩ := H
      go_enter Tryd.func47, Tryd.ntmps47
      go_wp2_with (first | ((with_reducible refine gate_dst (N := 4) rfl ?_); (try (refine gate_guard (by rfl) ?_; dsimp only)); refine box_event ?hg (N := 4) ?hd (cs := #[.int .i64 0, .bool false, .int .i64 0, .string (⟨#[]⟩ : ByteArray)]) (t := 61) ?hr ?_; (case hd => rfl); (case hg => rfl); (case hr => first | (go_simp; done) | (go_simp; rfl)); intro gb107 hg w10 hbox hb; have n0_ := Aside0.mk (below_step (by repeat (first | (with_reducible first | exact HB.out | apply below_alloc | apply pw_below_drewN | apply below_drew1) | exact HB.out)) hb); have n1_ := Aside0.mk (hbox); have n2_ := Aside0.mk ((by rw [hg]; exact (below_size (by repeat (first | (with_reducible first | exact HB.out | apply below_alloc | apply pw_below_drewN | apply below_drew1) | exact HB.out))) : w.heap.size ≤ gb107)); have n3_ := Aside0.mk ((by rw [hg]; exact (below_size (by repeat (first | (with_reducible first | exact HB.out | apply below_alloc | apply pw_below_drewN | apply below_drew1) | exact HB.out))) : w.heap.size ≤ gb107)); clear HB; have HB := n0_; have BK107 := n1_; have GW107 := n2_; have GE107 := n3_; clear n0_ n1_ n2_ n3_; clear hb hbox hg) | ((with_reducible refine gate_callee (f := 77) rfl ?_); refine goesL_ (some 13) rfl rfl Tryd.func77 (by kernel_rfl) rfl #[] rfl (by (try simp only [List.map_toArray, List.map_cons, List.map_nil]); first | done | rfl | (simp only [List.length_drop, List.length_take]; rfl)) ?_; (with_reducible refine (value_Null.calls  t112 t113 t114 t115 _ A9.out).mono ?_); rintro e w11 ⟨rfl, hb⟩; refine ⟨_, rfl, ?_⟩; have n0_ := Aside0.mk (blk_below (g := gb107) (o := .cells #[.int .i64 0, .bool false, .int .i64 0, .string (⟨#[]⟩ : ByteArray)] 61 (0, 0)) (by (with_reducible repeat (first | refine blk_drewN ?_ _ | refine blk_drew ?_ | refine blk_alloc ?_ _)); exact BK107.out) hb); have n1_ := Aside0.mk (below_step (by repeat (first | (with_reducible first | exact HB.out | apply below_alloc | apply pw_below_drewN | apply below_drew1 | refine below_set ?_ GE107.out) | exact HB.out)) hb); clear BK107; clear HB; have BK107 := n0_; have HB := n1_; clear n0_ n1_; (try clear hb); (try clear hb2); (try clear hk); (try clear hi); have hcz12_0 : w11.cell? ⟨gb107, 0, none⟩ = some (.int .i64 0) := (blk_cell BK107.out 0).trans rfl; have hcz12_1 : w11.cell? ⟨gb107, 1, none⟩ = some (.bool false) := (blk_cell BK107.out 1).trans rfl; have hcz12_2 : w11.cell? ⟨gb107, 2, none⟩ = some (.int .i64 0) := (blk_cell BK107.out 2).trans rfl; have hcz12_3 : w11.cell? ⟨gb107, 3, none⟩ = some (.string (⟨#[]⟩ : ByteArray)) := (blk_cell BK107.out 3).trans rfl; have hfz12_0 := blk_frozen BK107.out 0; have hfz12_1 := blk_frozen BK107.out 1; have hfz12_2 := blk_frozen BK107.out 2; have hfz12_3 := blk_frozen BK107.out 3))
      refine bodyPost_ret (results_cell_row rfl _ _ gb107 61 #[.int .i64 t112, .bool t113, .int .i64 t114, .string t115] (0, 0) _ rfl (by (with_reducible repeat (first | refine blk_drewN ?_ _ | refine blk_drew ?_ | refine blk_alloc ?_ _)); refine blk_put (cs := #[.int .i64 t112, .bool t113, .int .i64 t114, .string (⟨#[]⟩ : ByteArray)]) ?_ 3 _ rfl; (with_reducible repeat (first | refine blk_drewN ?_ _ | refine blk_drew ?_ | refine blk_alloc ?_ _)); refine blk_put (cs := #[.int .i64 t112, .bool t113, .int .i64 0, .string (⟨#[]⟩ : ByteArray)]) ?_ 2 _ rfl; (with_reducible repeat (first | refine blk_drewN ?_ _ | refine blk_drew ?_ | refine blk_alloc ?_ _)); refine blk_put (cs := #[.int .i64 t112, .bool false, .int .i64 0, .string (⟨#[]⟩ : ByteArray)]) ?_ 1 _ rfl; (with_reducible repeat (first | refine blk_drewN ?_ _ | refine blk_drew ?_ | refine blk_alloc ?_ _)); refine blk_put (cs := #[.int .i64 0, .bool false, .int .i64 0, .string (⟨#[]⟩ : ByteArray)]) ?_ 0 _ rfl; (with_reducible repeat (first | refine blk_drewN ?_ _ | refine blk_drew ?_ | refine blk_alloc ?_ _)); exact BK107.out) Tryd.underlying61 rfl (by kernel_rfl)) rfl ?_
      exact ⟨by first | rfl | (simp [errW_none, errW_some] <;> rfl) | (simp [*, errW_none, errW_some] <;> rfl), by repeat (first | (with_reducible first | exact HB.out | apply below_alloc | apply pw_below_drewN | apply below_drew1 | refine below_set ?_ GE107.out) | exact HB.out)⟩
    · rw [if_neg c8] at H
      have c8b0 : decide ((l0.length : Int) ≤ a1) = false := decide_eq_false c8
      clear c8
      by_cases c13 : 0 ≤ a1
      · rw [if_pos c13] at H
        have c13b0 : decide (0 ≤ a1) = true := decide_eq_true c13
        clear c13
        by_cases c14 : a1 < (l0.length : Int)
        · rw [if_pos c14] at H
          have c14b0 : decide (a1 < (l0.length : Int)) = true := decide_eq_true c14
          clear c14
          simp only [Option.some.injEq, Prod.mk.injEq] at H
          obtain ⟨rfl, rfl, rfl, rfl⟩ := H
          go_enter Tryd.func47, Tryd.ntmps47
          go_wp2_with (first | ((with_reducible refine gate_dst (N := 4) rfl ?_); (try (refine gate_guard (by rfl) ?_; dsimp only)); refine box_event ?hg (N := 4) ?hd (cs := #[.int .i64 0, .bool false, .int .i64 0, .string (⟨#[]⟩ : ByteArray)]) (t := 61) ?hr ?_; (case hd => rfl); (case hg => rfl); (case hr => first | (go_simp; done) | (go_simp; rfl)); intro gb107 hg w15 hbox hb; have n0_ := Aside0.mk (below_step (by repeat (first | (with_reducible first | exact HB.out | apply below_alloc | apply pw_below_drewN | apply below_drew1) | exact HB.out)) hb); have n1_ := Aside0.mk (hbox); have n2_ := Aside0.mk ((by rw [hg]; exact (below_size (by repeat (first | (with_reducible first | exact HB.out | apply below_alloc | apply pw_below_drewN | apply below_drew1) | exact HB.out))) : w.heap.size ≤ gb107)); have n3_ := Aside0.mk ((by rw [hg]; exact (below_size (by repeat (first | (with_reducible first | exact HB.out | apply below_alloc | apply pw_below_drewN | apply below_drew1) | exact HB.out))) : w.heap.size ≤ gb107)); clear HB; have HB := n0_; have BK107 := n1_; have GW107 := n2_; have GE107 := n3_; clear n0_ n1_ n2_ n3_; clear hb hbox hg; have p116 : 0 ≤ (a1 : Int) := of_decide_eq_true (by first | (with_reducible assumption) | assumption); have q116 : a1 < (l0.length : Int) := of_decide_eq_true (by first | (with_reducible assumption) | assumption); obtain ⟨ad116, e116, hx116_0, hx116_1, hx116_2, hx116_3⟩ := at_T61 HR0.out a1 p116 q116; cases e116; replace hx116_0 := (HB.out.cell (World.block_lt_of_cell? w _ hx116_0)).trans hx116_0; replace hx116_1 := (HB.out.cell (World.block_lt_of_cell? w _ hx116_1)).trans hx116_1; replace hx116_2 := (HB.out.cell (World.block_lt_of_cell? w _ hx116_2)).trans hx116_2; replace hx116_3 := (HB.out.cell (World.block_lt_of_cell? w _ hx116_3)).trans hx116_3; replace p116 := eq_true p116; replace q116 := eq_true q116; have hcz16_0 : w15.cell? ⟨gb107, 0, none⟩ = some (.int .i64 0) := (blk_cell BK107.out 0).trans rfl; have hcz16_1 : w15.cell? ⟨gb107, 1, none⟩ = some (.bool false) := (blk_cell BK107.out 1).trans rfl; have hcz16_2 : w15.cell? ⟨gb107, 2, none⟩ = some (.int .i64 0) := (blk_cell BK107.out 2).trans rfl; have hcz16_3 : w15.cell? ⟨gb107, 3, none⟩ = some (.string (⟨#[]⟩ : ByteArray)) := (blk_cell BK107.out 3).trans rfl; have hfz16_0 := blk_frozen BK107.out 0; have hfz16_1 := blk_frozen BK107.out 1; have hfz16_2 := blk_frozen BK107.out 2; have hfz16_3 := blk_frozen BK107.out 3))
          refine bodyPost_ret (results_cell_row rfl _ _ gb107 61 #[.int .i64 ((rd_T61 l0 a1).f0), .bool ((rd_T61 l0 a1).f1), .int .i64 ((rd_T61 l0 a1).f2), .string ((rd_T61 l0 a1).f3)] (0, 0) _ rfl (by (with_reducible repeat (first | refine blk_drewN ?_ _ | refine blk_drew ?_ | refine blk_alloc ?_ _)); refine blk_put (cs := #[.int .i64 ((rd_T61 l0 a1).f0), .bool ((rd_T61 l0 a1).f1), .int .i64 ((rd_T61 l0 a1).f2), .string (⟨#[]⟩ : ByteArray)]) ?_ 3 _ rfl; (with_reducible repeat (first | refine blk_drewN ?_ _ | refine blk_drew ?_ | refine blk_alloc ?_ _)); refine blk_put (cs := #[.int .i64 ((rd_T61 l0 a1).f0), .bool ((rd_T61 l0 a1).f1), .int .i64 0, .string (⟨#[]⟩ : ByteArray)]) ?_ 2 _ rfl; (with_reducible repeat (first | refine blk_drewN ?_ _ | refine blk_drew ?_ | refine blk_alloc ?_ _)); refine blk_put (cs := #[.int .i64 ((rd_T61 l0 a1).f0), .bool false, .int .i64 0, .string (⟨#[]⟩ : ByteArray)]) ?_ 1 _ rfl; (with_reducible repeat (first | refine blk_drewN ?_ _ | refine blk_drew ?_ | refine blk_alloc ?_ _)); refine blk_put (cs := #[.int .i64 0, .bool false, .int .i64 0, .string (⟨#[]⟩ : ByteArray)]) ?_ 0 _ rfl; (with_reducible repeat (first | refine blk_drewN ?_ _ | refine blk_drew ?_ | refine blk_alloc ?_ _)); exact BK107.out) Tryd.underlying61 rfl (by kernel_rfl)) rfl ?_
          exact ⟨by first | rfl | (simp [errW_none, errW_some] <;> rfl) | (simp [*, errW_none, errW_some] <;> rfl), by repeat (first | (with_reducible first | exact HB.out | apply below_alloc | apply pw_below_drewN | apply below_drew1 | refine below_set ?_ GE107.out) | exact HB.out)⟩
        · rw [if_neg c14] at H
          exact absurd H (by simp)
      · rw [if_neg c13] at H
        exact absurd H (by simp)

/-! ### exec_picked: function 56 -/
def exec_picked.l0 : Nat → List (S61) → List (S61) → List Int → Int → Int → Option ((List (S61)))
  | 0, _, _, _, _, _ => none
  | k + 1, x0, x5, x8, x9, x10 => if x10 < x9 then (if 0 ≤ x10 then (if x10 < (x8.length : Int) then ((exec_at.f x0 (rd x8 x10)).bind fun bt118 => (if x5.length < 3518437208883 then (exec_picked.l0 k x0 (x5 ++ [(⟨bt118.1, bt118.2.1, bt118.2.2.1, bt118.2.2.2⟩ : S61)]) x8 x9 (wrap64 (x10 + 1))) else (none))) else (none)) else (none)) else (some x5)
def exec_picked.f (k : Nat) (l0 : List (S61)) (l1 : List Int) : Option ((List (S61))) := exec_picked.l0 k l0 ([] : List (S61)) l1 (l1.length : Int) 0
set_option maxHeartbeats 8000000 in
set_option maxRecDepth 100000 in
theorem exec_picked.calls (k : Nat) (A0 : Option Addr) (c0 : Nat) (l0 : List (S61)) (A1 : Option Addr) (c1 : Nat) (l1 : List Int) (r : List (S61)) (w : World) (hr0 : Kd.C k61 w A0 l0.length l0) (hc0 : l0.length ≤ c0) (hr1 : Kd.C (Kd.int .i64) w A1 l1.length l1) (hc1 : l1.length ≤ c1) (h : exec_picked.f k l0 l1 = some r) :
    Calls Tryd.prog 56 #[.slice A0 l0.length c0, .slice A1 l1.length c1] w fun e w' => ∃ v0_ : Value, e = .returned (v0_) ∧ Kd.R k61 61 w' w.heap.size (fun _ => True) v0_ r ∧ Below w.heap.size w w' := by
  have HR0 := Aside0.mk hr0
  have HC0 := Aside0.mk hc0
  clear hr0 hc0
  have HR1 := Aside0.mk hr1
  have HC1 := Aside0.mk hc1
  clear hr1 hc1
  have HB := Aside0.mk (Below.refl w.heap.size w)
  have H : (exec_picked.l0 k l0 ([] : List (S61)) l1 (l1.length : Int) 0) = some r := h
  clear h
  have H' := Aside0.mk H
  clear H
  go_enter Tryd.func56, Tryd.ntmps56
  go_wp2
  go_loopg [5, 10] k (fun kq v5 v10 w' => ∃ (x5_1 : List (S61)) (x10_1 : Int), v10 = .int .i64 x10_1 ∧ Aside0 (exec_picked.l0 kq l0 x5_1 l1 (l1.length : Int) x10_1 = some r) ∧ Aside0 (kq ≤ k) ∧ Aside0 (Kd.R k61 61 w' w.heap.size (fun _ => True) v5 x5_1) ∧ Aside0 (Below w.heap.size w w'))
  case atStart => exact ⟨(([] : List (S61))), (0), (by first | rfl | (simp; done) | (simp [*]; done)), H', ⟨Nat.le_refl _⟩, ⟨by first | exact Kd.R_nil _ _ _ _ _ | exact Kd.N_nil _ _ _ _ _ | exact Kd.V_nil _ _ _ _ _ | exact Kd.Q_nil _ _ _ _ _ | exact Kd.S_nil _ _ _ _ _⟩, ⟨by repeat (first | (with_reducible first | exact HB.out | apply below_alloc | apply pw_below_drewN | apply below_drew1) | exact HB.out)⟩⟩
  case round =>
    clear H'
    try clear c1
    try clear p2
    obtain ⟨x5_1, x10_1, rfl, HA, HK1, HO_5, HB⟩ := hrel
    cases gk with
    | zero => exact absurd HA.out (by simp [exec_picked.l0])
    | succ k1 =>
      have H := HA.out
      clear HA
      simp only [exec_picked.l0] at H
      by_cases c3 : x10_1 < (l1.length : Int)
      · rw [if_pos c3] at H
        have c3b0 : decide (x10_1 < (l1.length : Int)) = true := decide_eq_true c3
        clear c3
        by_cases c4 : 0 ≤ x10_1
        · rw [if_pos c4] at H
          have c4b0 : decide (0 ≤ x10_1) = true := decide_eq_true c4
          clear c4
          by_cases c5 : x10_1 < (l1.length : Int)
          · rw [if_pos c5] at H
            have c5b0 : decide (x10_1 < (l1.length : Int)) = true := decide_eq_true c5
            clear c5
            replace H := Option.bind_eq_some_iff.mp H
            obtain ⟨⟨t118, t119, t120, t121⟩, A60, H⟩ := H
            replace H : (if x5_1.length < 3518437208883 then (exec_picked.l0 k1 l0 (x5_1 ++ [(⟨t118, t119, t120, t121⟩ : S61)]) l1 (l1.length : Int) (wrap64 (x10_1 + 1))) else (none)) = some r := H
            have A6 := Aside0.mk A60
            clear A60
            by_cases c7 : x5_1.length < 3518437208883
            · rw [if_pos c7] at H
              have LMc7 := Aside0.mk c7
              clear c7
              obtain ⟨y122, hy122⟩ : ∃ y_ : List (S61), y_ = (x5_1 ++ [(⟨t118, t119, t120, t121⟩ : S61)]) := ⟨_, rfl⟩
              replace H : (exec_picked.l0 k1 l0 y122 l1 (l1.length : Int) (wrap64 (x10_1 + 1))) = some r := by first | (rw [hy122]; with_reducible exact H) | (have H2_ := (Option.bind_some _ _).symm.trans H; rw [hy122]; with_reducible exact H2_) | (have H2_ := (Option.bind_some _ _).symm.trans H; with_reducible exact H2_) | with_reducible exact H | (rw [hy122]; exact H) | exact H
              have Ny122 := Aside0.mk hy122
              clear hy122
              have H' := Aside0.mk H
              clear H
              have p117 : 0 ≤ (x10_1 : Int) := of_decide_eq_true (by first | (with_reducible assumption) | assumption)
              have q117 : x10_1 < (l1.length : Int) := of_decide_eq_true (by first | (with_reducible assumption) | assumption)
              obtain ⟨ad117, e117, hx117_0⟩ := Kd.at_int HR1.out x10_1 p117 q117
              cases e117
              replace hx117_0 := (HB.out.cell (World.block_lt_of_cell? w _ hx117_0)).trans hx117_0
              replace p117 := eq_true p117
              replace q117 := eq_true q117
              go_wp2_with (first | ((with_reducible refine gate_callee (f := 47) rfl ?_); refine goesL_ (some 17) rfl rfl Tryd.func47 (by kernel_rfl) rfl #[.slice A0 l0.length c0, .int .i64 (rd l1 x10_1)] rfl (by (try simp only [List.map_toArray, List.map_cons, List.map_nil]); first | done | rfl | (simp only [List.length_drop, List.length_take]; rfl)) ?_; (with_reducible refine (exec_at.calls _ _ l0 (rd l1 x10_1) t118 t119 t120 t121 _ ?side1 ?side2 A6.out).mono ?_); (case side1 => repeat (first | exact (Kd.C_below HR0.out HB.out) | (with_reducible refine Kd.C_alloc ?_ _) | (with_reducible refine Kd.C_drewN ?_ _) | (with_reducible refine Kd.C_drew ?_))); (case side2 => exact HC0.out); rintro e w8 ⟨rfl, hb⟩; refine ⟨_, rfl, ?_⟩; have n0_ := Aside0.mk (Kd.R_below (by (with_reducible repeat (first | apply Kd.R_alloc | apply Kd.R_drewN | apply Kd.R_drew)); exact HO_5.out) hb); have n1_ := Aside0.mk (below_step (by repeat (first | (with_reducible first | exact HB.out | apply below_alloc | apply pw_below_drewN | apply below_drew1) | exact HB.out)) hb); clear HO_5; clear HB; have HO_5 := n0_; have HB := n1_; clear n0_ n1_; (try clear hb); (try clear hb2); (try clear hk); (try clear hi)) | ((with_reducible refine gate_builtin (b := .append) (xs := #[.tmp 14, .tmp 18]) rfl ?_); at_builtin; refine Kd.R_append k61 (w0 := w) w.heap.size rfl (.tmp 14) (.tmp 18) 62 61 (.agg #[(.int .i64 0), (.bool false), (.int .i64 0), (.string ⟨#[]⟩)]) 40 rfl Tryd.underlying62 info61 rfl (by decide) (by omega) u5 x5_1 (⟨t118, t119, t120, t121⟩ : S61) [.int .i64 t118, .bool t119, .int .i64 t120, .string t121] (fun _ => True) (fun _ => False) rfl rfl ?aP (fun _ hk => hk.elim) ?aF ?aO ?aB ?aS ?aL ?_; (case aP => exact k61_mkM _ _ _ (⟨t118, t119, t120, t121⟩ : S61)); (case aB => exact (by repeat (first | (with_reducible first | exact HB.out | apply below_alloc | apply pw_below_drewN | apply below_drew1) | exact HB.out))); (case aF => exact (fun _ _ => trivial)); (case aO => exact (by (with_reducible repeat (first | apply Kd.R_alloc | apply Kd.R_drewN | apply Kd.R_drew)); exact HO_5.out)); (case aS => exact (below_size (by repeat (first | (with_reducible first | exact HB.out | apply below_alloc | apply pw_below_drewN | apply below_drew1) | exact HB.out)))); (case aL => have := LMc7.out; omega); intro v123 w9 ho hb hg hat; rw [← Ny122.out] at ho; have n0_ := Aside0.mk (hb); have n1_ := Aside0.mk (ho); clear HB; clear HO_5; have HB := n0_; have HO124 := n1_; clear n0_ n1_; clear ho hb hg hat))
              go_roundg k1
              case measure => have := HK1.out; omega
              case rel => exact ⟨(y122), (wrap64 (x10_1 + 1)), (by first | rfl | (simp; done) | (simp [*]; done)), H', ⟨by have := HK1.out; omega⟩, ⟨by (with_reducible repeat (first | apply Kd.R_alloc | apply Kd.R_drewN | apply Kd.R_drew)); exact HO124.out⟩, ⟨by repeat (first | (with_reducible first | exact HB.out | apply below_alloc | apply pw_below_drewN | apply below_drew1) | exact HB.out)⟩⟩
            · rw [if_neg c7] at H
              exact absurd H (by simp)
          · rw [if_neg c5] at H
            exact absurd H (by simp)
        · rw [if_neg c4] at H
          exact absurd H (by simp)
      · rw [if_neg c3] at H
        have c3b0 : decide (x10_1 < (l1.length : Int)) = false := decide_eq_false c3
        clear c3
        obtain rfl := Option.some.inj H
        go_wp2
        go_ret
        exact ⟨_, by first | rfl | (simp [errW_none, errW_some] <;> rfl) | (simp [*, errW_none, errW_some] <;> rfl), by (with_reducible repeat (first | apply Kd.R_alloc | apply Kd.R_drewN | apply Kd.R_drew)); exact HO_5.out, by repeat (first | (with_reducible first | exact HB.out | apply below_alloc | apply pw_below_drewN | apply below_drew1) | exact HB.out)⟩

/-! ### slices_Index_int_int: function 102 -/
def slices_Index_int_int.l0 : Nat → List Int → Int → Int → Int → Option (Int)
  | 0, _, _, _, _ => none
  | k + 1, x0, x1, x7, x8 => if x8 < x7 then (if 0 ≤ x8 then (if x8 < (x0.length : Int) then (if x1 = (rd x0 x8) then (some x8) else (slices_Index_int_int.l0 k x0 x1 x7 (wrap64 (x8 + 1)))) else (none)) else (none)) else (some (-1))
def slices_Index_int_int.f (k : Nat) (l0 : List Int) (a1 : Int) : Option (Int) := slices_Index_int_int.l0 k l0 a1 (l0.length : Int) 0
set_option maxHeartbeats 8000000 in
set_option maxRecDepth 100000 in
theorem slices_Index_int_int.calls (k : Nat) (A0 : Option Addr) (c0 : Nat) (l0 : List Int) (a1 : Int) (r : Int) (w : World) (hr0 : Kd.C (Kd.int .i64) w A0 l0.length l0) (hc0 : l0.length ≤ c0) (h : slices_Index_int_int.f k l0 a1 = some r) :
    Calls Tryd.prog 102 #[.slice A0 l0.length c0, .int .i64 a1] w fun e w' => e = .returned (.int .i64 r) ∧ Drawn0 w w' := by
  have HR0 := Aside0.mk hr0
  have HC0 := Aside0.mk hc0
  clear hr0 hc0
  have H : (slices_Index_int_int.l0 k l0 a1 (l0.length : Int) 0) = some r := h
  clear h
  have H' := Aside0.mk H
  clear H
  go_enter Tryd.func102, Tryd.ntmps102
  go_wp2
  go_loopg [8] k (fun kq v8 w' => ∃ (x8_1 : Int), v8 = .int .i64 x8_1 ∧ Aside0 (slices_Index_int_int.l0 kq l0 a1 (l0.length : Int) x8_1 = some r) ∧ Aside0 (kq ≤ k) ∧ Drawn0 w w')
  case atStart => exact ⟨(0), (by first | rfl | (simp; done) | (simp [*]; done)), H', ⟨Nat.le_refl _⟩, by repeat (first | exact Drawn0.refl _ | apply Drawn0.step)⟩
  case round =>
    clear H'
    try clear c1
    try clear p2
    obtain ⟨x8_1, rfl, HA, HK1, ⟨m1, rfl⟩⟩ := hrel
    cases gk with
    | zero => exact absurd HA.out (by simp [slices_Index_int_int.l0])
    | succ k1 =>
      have H := HA.out
      clear HA
      simp only [slices_Index_int_int.l0] at H
      by_cases c3 : x8_1 < (l0.length : Int)
      · rw [if_pos c3] at H
        have c3b0 : decide (x8_1 < (l0.length : Int)) = true := decide_eq_true c3
        clear c3
        by_cases c4 : 0 ≤ x8_1
        · rw [if_pos c4] at H
          have c4b0 : decide (0 ≤ x8_1) = true := decide_eq_true c4
          clear c4
          by_cases c5 : x8_1 < (l0.length : Int)
          · rw [if_pos c5] at H
            have c5b0 : decide (x8_1 < (l0.length : Int)) = true := decide_eq_true c5
            clear c5
            by_cases c6 : a1 = (rd l0 x8_1)
            · rw [if_pos c6] at H
              have c6b0 : (a1 == (rd l0 x8_1)) = true := beq_iff_eq.mpr c6
              have c6b1 : (a1 != (rd l0 x8_1)) = false := bne_eq_false_iff_eq.mpr c6
              clear c6
              obtain rfl := Option.some.inj H
              have p125 : 0 ≤ (x8_1 : Int) := of_decide_eq_true (by first | (with_reducible assumption) | assumption)
              have q125 : x8_1 < (l0.length : Int) := of_decide_eq_true (by first | (with_reducible assumption) | assumption)
              obtain ⟨ad125, e125, hx125_0⟩ := Kd.at_int HR0.out x8_1 p125 q125
              cases e125
              replace p125 := eq_true p125
              replace q125 := eq_true q125
              go_wp2
              go_ret
              exact ⟨by first | rfl | (simp; done) | (simp [*]; done), by repeat (first | exact Drawn0.refl _ | apply Drawn0.step)⟩
            · rw [if_neg c6] at H
              have c6b0 : (a1 == (rd l0 x8_1)) = false := beq_eq_false_iff_ne.mpr c6
              have c6b1 : (a1 != (rd l0 x8_1)) = true := bne_iff_ne.mpr c6
              have H' := Aside0.mk H
              clear H
              have p125 : 0 ≤ (x8_1 : Int) := of_decide_eq_true (by first | (with_reducible assumption) | assumption)
              have q125 : x8_1 < (l0.length : Int) := of_decide_eq_true (by first | (with_reducible assumption) | assumption)
              obtain ⟨ad125, e125, hx125_0⟩ := Kd.at_int HR0.out x8_1 p125 q125
              cases e125
              replace p125 := eq_true p125
              replace q125 := eq_true q125
              go_wp2
              go_roundg k1
              case measure => have := HK1.out; omega
              case rel => exact ⟨(wrap64 (x8_1 + 1)), (by first | rfl | (simp; done) | (simp [*]; done)), H', ⟨by have := HK1.out; omega⟩, by repeat (first | exact Drawn0.refl _ | apply Drawn0.step)⟩
          · rw [if_neg c5] at H
            exact absurd H (by simp)
        · rw [if_neg c4] at H
          exact absurd H (by simp)
      · rw [if_neg c3] at H
        have c3b0 : decide (x8_1 < (l0.length : Int)) = false := decide_eq_false c3
        clear c3
        obtain rfl := Option.some.inj H
        go_wp2
        go_ret
        exact ⟨by first | rfl | (simp; done) | (simp [*]; done), by repeat (first | exact Drawn0.refl _ | apply Drawn0.step)⟩

/-! ### slices_Contains_int_int: function 89 -/
def slices_Contains_int_int.f (k : Nat) (l0 : List Int) (a1 : Int) : Option (Bool) := (slices_Index_int_int.f k l0 a1).bind fun t126 => (some (decide (t126 ≥ 0)))
set_option maxHeartbeats 8000000 in
set_option maxRecDepth 100000 in
theorem slices_Contains_int_int.calls (k : Nat) (A0 : Option Addr) (c0 : Nat) (l0 : List Int) (a1 : Int) (r : Bool) (w : World) (hr0 : Kd.C (Kd.int .i64) w A0 l0.length l0) (hc0 : l0.length ≤ c0) (h : slices_Contains_int_int.f k l0 a1 = some r) :
    Calls Tryd.prog 89 #[.slice A0 l0.length c0, .int .i64 a1] w fun e w' => e = .returned (.bool r) ∧ Drawn0 w w' := by
  have HR0 := Aside0.mk hr0
  have HC0 := Aside0.mk hc0
  clear hr0 hc0
  have H : ((slices_Index_int_int.f k l0 a1).bind fun t126 => (some (decide (t126 ≥ 0)))) = some r := h
  clear h
  replace H := Option.bind_eq_some_iff.mp H
  obtain ⟨t126, A30, H⟩ := H
  replace H : (some (decide (t126 ≥ 0))) = some r := H
  have A3 := Aside0.mk A30
  clear A30
  obtain rfl := Option.some.inj H
  go_enter Tryd.func89, Tryd.ntmps89
  go_wp2_with (first | ((with_reducible refine gate_callee (f := 102) rfl ?_); refine goesL_ (some 7) rfl rfl Tryd.func102 (by kernel_rfl) rfl #[.slice A0 l0.length c0, .int .i64 a1] rfl (by (try simp only [List.map_toArray, List.map_cons, List.map_nil]); first | done | rfl | (simp only [List.length_drop, List.length_take]; rfl)) ?_; (with_reducible refine (slices_Index_int_int.calls k _ _ l0 a1 t126 _ ?side1 ?side2 A3.out).mono ?_); (case side1 => repeat (first | exact HR0.out | (with_reducible refine Kd.C_alloc ?_ _) | (with_reducible refine Kd.C_drewN ?_ _) | (with_reducible refine Kd.C_drew ?_))); (case side2 => exact HC0.out); rintro e w' ⟨rfl, ⟨nd, rfl⟩⟩; refine ⟨_, rfl, ?_⟩))
  go_ret
  exact ⟨by first | rfl | (simp; done) | (simp [*]; done), by repeat (first | exact Drawn0.refl _ | apply Drawn0.step)⟩

/-! ### plan_covers: function 70 -/
def plan_covers.l0 : Nat → List Int → Int → Int → Option (Bool)
  | 0, _, _, _ => none
  | k + 1, x1, x8, x9 => if x9 < x8 then ((slices_Contains_int_int.f k x1 x9).bind fun t128 => (if t128 = true then (plan_covers.l0 k x1 x8 (wrap64 (x9 + 1))) else (some false))) else (some true)
def plan_covers.f (k : Nat) (a0_0 : ByteArray) (l0_1 : List (S101)) (l1 : List Int) : Option (Bool) := plan_covers.l0 k l1 (l0_1.length : Int) 0
set_option maxHeartbeats 8000000 in
set_option maxRecDepth 100000 in
theorem plan_covers.calls (k : Nat) (a0_0 : ByteArray) (A0_1 : Option Addr) (c0_1 : Nat) (l0_1 : List (S101)) (A1 : Option Addr) (c1 : Nat) (l1 : List Int) (r : Bool) (w : World) (hr0_1 : Kd.C k101 w A0_1 l0_1.length l0_1) (hc0_1 : l0_1.length ≤ c0_1) (hr1 : Kd.C (Kd.int .i64) w A1 l1.length l1) (hc1 : l1.length ≤ c1) (h : plan_covers.f k a0_0 l0_1 l1 = some r) :
    Calls Tryd.prog 70 #[.agg #[.string a0_0, .slice A0_1 l0_1.length c0_1], .slice A1 l1.length c1] w fun e w' => e = .returned (.bool r) ∧ Below w.heap.size w w' := by
  have hu77 := Tryd.underlying77
  have HR0_1 := Aside0.mk hr0_1
  have HC0_1 := Aside0.mk hc0_1
  clear hr0_1 hc0_1
  have HR1 := Aside0.mk hr1
  have HC1 := Aside0.mk hc1
  clear hr1 hc1
  have HB := Aside0.mk (Below.refl w.heap.size w)
  have H : (plan_covers.l0 k l1 (l0_1.length : Int) 0) = some r := h
  clear h
  have H' := Aside0.mk H
  clear H
  go_enter Tryd.func70, Tryd.ntmps70
  go_wp2_with (first | ((with_reducible refine gate_dst (N := 2) rfl ?_); refine box_event ?hg (N := 2) ?hd (cs := #[.string a0_0, .slice A0_1 l0_1.length c0_1]) (t := 77) ?hr ?_; (case hd => rfl); (case hg => rfl); (case hr => first | (go_simp; done) | (go_simp; rfl)); intro gb127 hg w3 hbox hb; have n0_ := Aside0.mk (below_step (by repeat (first | (with_reducible first | exact HB.out | apply below_alloc | apply pw_below_drewN | apply below_drew1) | exact HB.out)) hb); have n1_ := Aside0.mk (hbox); have n2_ := Aside0.mk ((by rw [hg]; exact (below_size (by repeat (first | (with_reducible first | exact HB.out | apply below_alloc | apply pw_below_drewN | apply below_drew1) | exact HB.out))) : w.heap.size ≤ gb127)); have n3_ := Aside0.mk ((by rw [hg]; exact (below_size (by repeat (first | (with_reducible first | exact HB.out | apply below_alloc | apply pw_below_drewN | apply below_drew1) | exact HB.out))) : w.heap.size ≤ gb127)); clear HB; have HB := n0_; have BK127 := n1_; have GW127 := n2_; have GE127 := n3_; clear n0_ n1_ n2_ n3_; clear hb hbox hg; have hcz4_0 : w3.cell? ⟨gb127, 0, none⟩ = some (.string a0_0) := (blk_cell BK127.out 0).trans rfl; have hcz4_1 : w3.cell? ⟨gb127, 1, none⟩ = some (.slice A0_1 l0_1.length c0_1) := (blk_cell BK127.out 1).trans rfl; have hfz4_0 := blk_frozen BK127.out 0; have hfz4_1 := blk_frozen BK127.out 1))
  go_loopg [9] k (fun kq v9 w' => ∃ (x9_1 : Int), v9 = .int .i64 x9_1 ∧ Aside0 (plan_covers.l0 kq l1 (l0_1.length : Int) x9_1 = some r) ∧ Aside0 (kq ≤ k) ∧ Aside0 (w'.heap[gb127]? = some (.cells #[.string a0_0, (.slice A0_1 l0_1.length c0_1)] 77 (0, 0))) ∧ Aside0 (Below w.heap.size w w'))
  case atStart => exact ⟨(0), (by first | rfl | (simp; done) | (simp [*]; done)), H', ⟨Nat.le_refl _⟩, ⟨by (with_reducible repeat (first | refine blk_drewN ?_ _ | refine blk_drew ?_ | refine blk_alloc ?_ _)); exact BK127.out⟩, ⟨by repeat (first | (with_reducible first | exact HB.out | apply below_alloc | apply pw_below_drewN | apply below_drew1 | refine below_set ?_ GE127.out) | exact HB.out)⟩⟩
  case round =>
    clear H'
    try clear c1
    try clear p2
    try clear hcz4_0
    try clear hcz4_1
    try clear hfz4_0
    try clear hfz4_1
    obtain ⟨x9_1, rfl, HA, HK1, BK127, HB⟩ := hrel
    cases gk with
    | zero => exact absurd HA.out (by simp [plan_covers.l0])
    | succ k1 =>
      have H := HA.out
      clear HA
      simp only [plan_covers.l0] at H
      by_cases c5 : x9_1 < (l0_1.length : Int)
      · rw [if_pos c5] at H
        have c5b0 : decide (x9_1 < (l0_1.length : Int)) = true := decide_eq_true c5
        clear c5
        replace H := Option.bind_eq_some_iff.mp H
        obtain ⟨t128, A60, H⟩ := H
        replace H : (if t128 = true then (plan_covers.l0 k1 l1 (l0_1.length : Int) (wrap64 (x9_1 + 1))) else (some false)) = some r := H
        have A6 := Aside0.mk A60
        clear A60
        by_cases c7 : t128 = true
        · subst c7
          have H1 : (plan_covers.l0 k1 l1 (l0_1.length : Int) (wrap64 (x9_1 + 1))) = some r := by rw [if_pos rfl] at H; exact H
          clear H
          have H := H1
          clear H1
          have H' := Aside0.mk H
          clear H
          go_wp2_with (first | ((with_reducible refine gate_callee (f := 89) rfl ?_); refine goesL_ (some 14) rfl rfl Tryd.func89 (by kernel_rfl) rfl #[.slice A1 l1.length c1, .int .i64 x9_1] rfl (by (try simp only [List.map_toArray, List.map_cons, List.map_nil]); first | done | rfl | (simp only [List.length_drop, List.length_take]; rfl)) ?_; (with_reducible refine (slices_Contains_int_int.calls k1 _ _ l1 x9_1 true _ ?side1 ?side2 A6.out).mono ?_); (case side1 => repeat (first | exact (Kd.C_below HR1.out HB.out) | (with_reducible refine Kd.C_alloc ?_ _) | (with_reducible refine Kd.C_drewN ?_ _) | (with_reducible refine Kd.C_drew ?_))); (case side2 => exact HC1.out); rintro e w' ⟨rfl, ⟨nd, rfl⟩⟩; refine ⟨_, rfl, ?_⟩))
          go_roundg k1
          case measure => have := HK1.out; omega
          case rel => exact ⟨(wrap64 (x9_1 + 1)), (by first | rfl | (simp; done) | (simp [*]; done)), H', ⟨by have := HK1.out; omega⟩, ⟨by (with_reducible repeat (first | refine blk_drewN ?_ _ | refine blk_drew ?_ | refine blk_alloc ?_ _)); exact BK127.out⟩, ⟨by repeat (first | (with_reducible first | exact HB.out | apply below_alloc | apply pw_below_drewN | apply below_drew1 | refine below_set ?_ GE127.out) | exact HB.out)⟩⟩
        · replace c7 := Bool.eq_false_iff.mpr c7
          subst c7
          have H1 : (some false) = some r := by rw [if_neg (show ¬ (false = true) by decide)] at H; exact H
          clear H
          have H := H1
          clear H1
          obtain rfl := Option.some.inj H
          go_wp2_with (first | ((with_reducible refine gate_callee (f := 89) rfl ?_); refine goesL_ (some 14) rfl rfl Tryd.func89 (by kernel_rfl) rfl #[.slice A1 l1.length c1, .int .i64 x9_1] rfl (by (try simp only [List.map_toArray, List.map_cons, List.map_nil]); first | done | rfl | (simp only [List.length_drop, List.length_take]; rfl)) ?_; (with_reducible refine (slices_Contains_int_int.calls k1 _ _ l1 x9_1 false _ ?side1 ?side2 A6.out).mono ?_); (case side1 => repeat (first | exact (Kd.C_below HR1.out HB.out) | (with_reducible refine Kd.C_alloc ?_ _) | (with_reducible refine Kd.C_drewN ?_ _) | (with_reducible refine Kd.C_drew ?_))); (case side2 => exact HC1.out); rintro e w' ⟨rfl, ⟨nd, rfl⟩⟩; refine ⟨_, rfl, ?_⟩))
          go_ret
          exact ⟨by first | rfl | (simp [errW_none, errW_some] <;> rfl) | (simp [*, errW_none, errW_some] <;> rfl), by repeat (first | (with_reducible first | exact HB.out | apply below_alloc | apply pw_below_drewN | apply below_drew1 | refine below_set ?_ GE127.out) | exact HB.out)⟩
      · rw [if_neg c5] at H
        have c5b0 : decide (x9_1 < (l0_1.length : Int)) = false := decide_eq_false c5
        clear c5
        obtain rfl := Option.some.inj H
        go_wp2
        go_ret
        exact ⟨by first | rfl | (simp [errW_none, errW_some] <;> rfl) | (simp [*, errW_none, errW_some] <;> rfl), by repeat (first | (with_reducible first | exact HB.out | apply below_alloc | apply pw_below_drewN | apply below_drew1 | refine below_set ?_ GE127.out) | exact HB.out)⟩

-- NOT PRINTED: function 90 (slices_Grow_int_int)

-- NOT PRINTED: function 71 (slices_Concat_int_int)

-- NOT PRINTED: function 34 (plan_ways)

-- NOT PRINTED: function 11 (plan_Choose)

-- NOT PRINTED: function 13 (plan_Many)

/-! ### hayloftlaw16_small: function 20 -/
def hayloftlaw16_small.f  : Option (Int × Int × Int × (List (S77)) × (List (S80))) := some (1, 1, 0, (([(⟨(⟨#[116]⟩ : ByteArray), (([(⟨(⟨#[97]⟩ : ByteArray), 2, false⟩ : S101), (⟨(⟨#[98]⟩ : ByteArray), 2, false⟩ : S101)] : List (S101)))⟩ : S77)] : List (S77))), (([(⟨(⟨#[112]⟩ : ByteArray), 0, (([0, 1] : List Int)), ([] : List Int), 0, 0⟩ : S80), (⟨(⟨#[113]⟩ : ByteArray), 0, (([0] : List Int)), ([] : List Int), 0, 0⟩ : S80), (⟨(⟨#[114]⟩ : ByteArray), 0, (([1] : List Int)), ([] : List Int), 1, 0⟩ : S80)] : List (S80))))
set_option maxHeartbeats 8000000 in
set_option maxRecDepth 100000 in
theorem hayloftlaw16_small.calls  (r1 : Int) (r2 : Int) (r3 : Int) (r4 : List (S77)) (r5 : List (S80)) (w : World) (h : hayloftlaw16_small.f  = some (r1, r2, r3, r4, r5)) :
    Calls Tryd.prog 20 #[] w fun e w' => ∃ v3_ v4_ : Value, e = .returned (.agg #[.int .i64 r1, .int .i64 r2, .int .i64 r3, v3_, v4_]) ∧ Kd.N k77 77 w' w.heap.size (fun k_ => (w.heap.size ≤ k_) ∧ some k_ ≠ (v4_ : Value).ownBlock) v3_ r4 ∧ Kd.N k80 80 w' w.heap.size (fun k_ => (w.heap.size ≤ k_) ∧ some k_ ≠ (v3_ : Value).ownBlock) v4_ r5 ∧ Below w.heap.size w w' := by
  have hu40 := Tryd.underlying40
  have hu101 := Tryd.underlying101
  have hu77 := Tryd.underlying77
  have hu80 := Tryd.underlying80
  have HB := Aside0.mk (Below.refl w.heap.size w)
  have H : (some (1, 1, 0, (([(⟨(⟨#[116]⟩ : ByteArray), (([(⟨(⟨#[97]⟩ : ByteArray), 2, false⟩ : S101), (⟨(⟨#[98]⟩ : ByteArray), 2, false⟩ : S101)] : List (S101)))⟩ : S77)] : List (S77))), (([(⟨(⟨#[112]⟩ : ByteArray), 0, (([0, 1] : List Int)), ([] : List Int), 0, 0⟩ : S80), (⟨(⟨#[113]⟩ : ByteArray), 0, (([0] : List Int)), ([] : List Int), 0, 0⟩ : S80), (⟨(⟨#[114]⟩ : ByteArray), 0, (([1] : List Int)), ([] : List Int), 1, 0⟩ : S80)] : List (S80))))) = some (r1, r2, r3, r4, r5) := h
  clear h
  obtain ⟨y149, hy149⟩ : ∃ y_ : List (S101), y_ = (([(⟨(⟨#[97]⟩ : ByteArray), 2, false⟩ : S101), (⟨(⟨#[98]⟩ : ByteArray), 2, false⟩ : S101)] : List (S101))) := ⟨_, rfl⟩
  replace H : (some (1, 1, 0, (([(⟨(⟨#[116]⟩ : ByteArray), y149⟩ : S77)] : List (S77))), (([(⟨(⟨#[112]⟩ : ByteArray), 0, (([0, 1] : List Int)), ([] : List Int), 0, 0⟩ : S80), (⟨(⟨#[113]⟩ : ByteArray), 0, (([0] : List Int)), ([] : List Int), 0, 0⟩ : S80), (⟨(⟨#[114]⟩ : ByteArray), 0, (([1] : List Int)), ([] : List Int), 1, 0⟩ : S80)] : List (S80))))) = some (r1, r2, r3, r4, r5) := by first | (rw [hy149]; with_reducible exact H) | (have H2_ := (Option.bind_some _ _).symm.trans H; rw [hy149]; with_reducible exact H2_) | (have H2_ := (Option.bind_some _ _).symm.trans H; with_reducible exact H2_) | with_reducible exact H | (rw [hy149]; exact H) | exact H
  have Ny149 := Aside0.mk hy149
  clear hy149
  obtain ⟨y152, hy152⟩ : ∃ y_ : List (S77), y_ = (([(⟨(⟨#[116]⟩ : ByteArray), y149⟩ : S77)] : List (S77))) := ⟨_, rfl⟩
  replace H : (some (1, 1, 0, y152, (([(⟨(⟨#[112]⟩ : ByteArray), 0, (([0, 1] : List Int)), ([] : List Int), 0, 0⟩ : S80), (⟨(⟨#[113]⟩ : ByteArray), 0, (([0] : List Int)), ([] : List Int), 0, 0⟩ : S80), (⟨(⟨#[114]⟩ : ByteArray), 0, (([1] : List Int)), ([] : List Int), 1, 0⟩ : S80)] : List (S80))))) = some (r1, r2, r3, r4, r5) := by first | (rw [hy152]; with_reducible exact H) | (have H2_ := (Option.bind_some _ _).symm.trans H; rw [hy152]; with_reducible exact H2_) | (have H2_ := (Option.bind_some _ _).symm.trans H; with_reducible exact H2_) | with_reducible exact H | (rw [hy152]; exact H) | exact H
  have Ny152 := Aside0.mk hy152
  clear hy152
  obtain ⟨y155, hy155⟩ : ∃ y_ : List Int, y_ = (([0, 1] : List Int)) := ⟨_, rfl⟩
  replace H : (some (1, 1, 0, y152, (([(⟨(⟨#[112]⟩ : ByteArray), 0, y155, ([] : List Int), 0, 0⟩ : S80), (⟨(⟨#[113]⟩ : ByteArray), 0, (([0] : List Int)), ([] : List Int), 0, 0⟩ : S80), (⟨(⟨#[114]⟩ : ByteArray), 0, (([1] : List Int)), ([] : List Int), 1, 0⟩ : S80)] : List (S80))))) = some (r1, r2, r3, r4, r5) := by first | (rw [hy155]; with_reducible exact H) | (have H2_ := (Option.bind_some _ _).symm.trans H; rw [hy155]; with_reducible exact H2_) | (have H2_ := (Option.bind_some _ _).symm.trans H; with_reducible exact H2_) | with_reducible exact H | (rw [hy155]; exact H) | exact H
  have Ny155 := Aside0.mk hy155
  clear hy155
  obtain ⟨y158, hy158⟩ : ∃ y_ : List Int, y_ = (([0] : List Int)) := ⟨_, rfl⟩
  replace H : (some (1, 1, 0, y152, (([(⟨(⟨#[112]⟩ : ByteArray), 0, y155, ([] : List Int), 0, 0⟩ : S80), (⟨(⟨#[113]⟩ : ByteArray), 0, y158, ([] : List Int), 0, 0⟩ : S80), (⟨(⟨#[114]⟩ : ByteArray), 0, (([1] : List Int)), ([] : List Int), 1, 0⟩ : S80)] : List (S80))))) = some (r1, r2, r3, r4, r5) := by first | (rw [hy158]; with_reducible exact H) | (have H2_ := (Option.bind_some _ _).symm.trans H; rw [hy158]; with_reducible exact H2_) | (have H2_ := (Option.bind_some _ _).symm.trans H; with_reducible exact H2_) | with_reducible exact H | (rw [hy158]; exact H) | exact H
  have Ny158 := Aside0.mk hy158
  clear hy158
  obtain ⟨y161, hy161⟩ : ∃ y_ : List Int, y_ = (([1] : List Int)) := ⟨_, rfl⟩
  replace H : (some (1, 1, 0, y152, (([(⟨(⟨#[112]⟩ : ByteArray), 0, y155, ([] : List Int), 0, 0⟩ : S80), (⟨(⟨#[113]⟩ : ByteArray), 0, y158, ([] : List Int), 0, 0⟩ : S80), (⟨(⟨#[114]⟩ : ByteArray), 0, y161, ([] : List Int), 1, 0⟩ : S80)] : List (S80))))) = some (r1, r2, r3, r4, r5) := by first | (rw [hy161]; with_reducible exact H) | (have H2_ := (Option.bind_some _ _).symm.trans H; rw [hy161]; with_reducible exact H2_) | (have H2_ := (Option.bind_some _ _).symm.trans H; with_reducible exact H2_) | with_reducible exact H | (rw [hy161]; exact H) | exact H
  have Ny161 := Aside0.mk hy161
  clear hy161
  obtain ⟨y164, hy164⟩ : ∃ y_ : List (S80), y_ = (([(⟨(⟨#[112]⟩ : ByteArray), 0, y155, ([] : List Int), 0, 0⟩ : S80), (⟨(⟨#[113]⟩ : ByteArray), 0, y158, ([] : List Int), 0, 0⟩ : S80), (⟨(⟨#[114]⟩ : ByteArray), 0, y161, ([] : List Int), 1, 0⟩ : S80)] : List (S80))) := ⟨_, rfl⟩
  replace H : (some (1, 1, 0, y152, y164)) = some (r1, r2, r3, r4, r5) := by first | (rw [hy164]; with_reducible exact H) | (have H2_ := (Option.bind_some _ _).symm.trans H; rw [hy164]; with_reducible exact H2_) | (have H2_ := (Option.bind_some _ _).symm.trans H; with_reducible exact H2_) | with_reducible exact H | (rw [hy164]; exact H) | exact H
  have Ny164 := Aside0.mk hy164
  clear hy164
  simp only [Option.some.injEq, Prod.mk.injEq] at H
  obtain ⟨rfl, rfl, rfl, rfl, rfl⟩ := H
  go_enter Tryd.func20, Tryd.ntmps20
  go_wp2_with (first | ((with_reducible refine gate_dst (N := 0) rfl ?_); refine box_event ?hg (N := 0) ?hd (cs := #[.int .i64 0, .int .i64 0, .int .i64 0, .slice none 0 0, .slice none 0 0]) (t := 40) ?hr ?_; (case hd => rfl); (case hg => rfl); (case hr => first | (go_simp; done) | (go_simp; rfl)); intro gb148 hg w1 hbox hb; have n0_ := Aside0.mk (below_step (by repeat (first | (with_reducible first | exact HB.out | apply below_alloc | apply pw_below_drewN | apply below_drew1) | exact HB.out)) hb); have n1_ := Aside0.mk (hbox); have n2_ := Aside0.mk ((by rw [hg]; exact (below_size (by repeat (first | (with_reducible first | exact HB.out | apply below_alloc | apply pw_below_drewN | apply below_drew1) | exact HB.out))) : w.heap.size ≤ gb148)); have n3_ := Aside0.mk ((by rw [hg]; exact (below_size (by repeat (first | (with_reducible first | exact HB.out | apply below_alloc | apply pw_below_drewN | apply below_drew1) | exact HB.out))) : w.heap.size ≤ gb148)); clear HB; have HB := n0_; have BK148 := n1_; have GW148 := n2_; have GE148 := n3_; clear n0_ n1_ n2_ n3_; clear hb hbox hg) | ((with_reducible refine gate_dst (N := 3) rfl ?_); refine Kd.R_lit k101 _ 101 ?hg (N := 3) ?hd (xs := ([(⟨(⟨#[97]⟩ : ByteArray), 2, false⟩ : S101), (⟨(⟨#[98]⟩ : ByteArray), 2, false⟩ : S101)] : List (S101))) (inner := [.string (⟨#[97]⟩ : ByteArray), .int .i64 2, .bool false, .string (⟨#[98]⟩ : ByteArray), .int .i64 2, .bool false]) (ok := fun _ => True) (okp := fun _ => True) ?hr ?hp (fun _ hk => hk) trivial (Below.refl _ _) (Nat.le_refl _) (by simp) ?_; (case hd => rfl); (case hg => rfl); (case hr => first | (go_simp; done) | (go_simp; rfl)); (case hp => exact (Reps.c3 (show Kd.M k101 _ _ _ (⟨(⟨#[97]⟩ : ByteArray), 2, false⟩ : S101) [.string (⟨#[97]⟩ : ByteArray), .int .i64 2, .bool false] from (k101_mkM _ _ _ (⟨(⟨#[97]⟩ : ByteArray), 2, false⟩ : S101) )) (Reps.c3 (show Kd.M k101 _ _ _ (⟨(⟨#[98]⟩ : ByteArray), 2, false⟩ : S101) [.string (⟨#[98]⟩ : ByteArray), .int .i64 2, .bool false] from (k101_mkM _ _ _ (⟨(⟨#[98]⟩ : ByteArray), 2, false⟩ : S101) )) (Reps.none _ _)))); intro v150 w2 ho3 hb hg_ hnew_; clear hg_ hnew_; (first | rw [← Ny149.out] at ho3 | (simp only [Int.reduceToNat] at ho3; rw [← Ny149.out] at ho3)); have n0_ := Aside0.mk (Kd.R_lower (Kd.R_newM (M := fun k_ => (w.heap.size ≤ k_)) ho3 (below_size (by repeat (first | (with_reducible first | exact HB.out | apply below_alloc | apply pw_below_drewN | apply below_drew1 | refine below_set ?_ GE148.out) | exact HB.out))) (fun k_ h_ => h_)) (below_size (by repeat (first | (with_reducible first | exact HB.out | apply below_alloc | apply pw_below_drewN | apply below_drew1 | refine below_set ?_ GE148.out) | exact HB.out)))); have n1_ := Aside0.mk (blk_below (g := gb148) (o := .cells #[.int .i64 0, .int .i64 0, .int .i64 0, .slice none 0 0, .slice none 0 0] 40 (0, 0)) (by (with_reducible repeat (first | refine blk_drewN ?_ _ | refine blk_drew ?_ | refine blk_alloc ?_ _)); exact BK148.out) hb); have n2_ := Aside0.mk (below_step (by repeat (first | (with_reducible first | exact HB.out | apply below_alloc | apply pw_below_drewN | apply below_drew1 | refine below_set ?_ GE148.out) | exact HB.out)) hb); clear BK148; clear HB; have HO151 := n0_; have BK148 := n1_; have HB := n2_; clear n0_ n1_ n2_; clear hb ho3; obtain ⟨Ao4, co4, eo4⟩ := Kd.R_slice HO151.out; subst eo4) | ((with_reducible refine gate_dst (N := 5) rfl ?_); refine Kd.N_lit k77 _ 77 ?hg (N' := 5) ?hd (xs := ([(⟨(⟨#[116]⟩ : ByteArray), y149⟩ : S77)] : List (S77))) (inner := [.string (⟨#[116]⟩ : ByteArray), .slice Ao4 y149.length co4]) (ok := (fun k_ => (w.heap.size ≤ k_) ∧ k_ ≠ gb148)) (okp := (fun k_ => (w.heap.size ≤ k_) ∧ k_ ≠ gb148)) ?hr ?hp (fun _ hk => hk) ((show ∀ k_, w2.heap.size ≤ k_ → (fun k_ => (w.heap.size ≤ k_) ∧ k_ ≠ gb148) k_ from fun k_ hk => ⟨(Nat.le_trans (below_size (by repeat (first | (with_reducible first | exact HB.out | apply below_alloc | apply pw_below_drewN | apply below_drew1 | refine below_set ?_ GE148.out) | exact HB.out))) hk), Kd.freshB (g := gb148) (o := .cells #[.int .i64 0, .int .i64 0, .int .i64 0, .slice none 0 0, .slice none 0 0] 40 (0, 0)) (by (with_reducible repeat (first | refine blk_drewN ?_ _ | refine blk_drew ?_ | refine blk_alloc ?_ _)); exact BK148.out) k_ hk⟩) _ (Nat.le_refl _)) (Below.refl _ _) (Nat.le_refl _) (by simp) ?_; (case hd => rfl); (case hg => rfl); (case hr => first | (go_simp; done) | (go_simp; rfl)); (case hp => exact (Reps.c2 (show Kd.FK k77 _ _ (⟨(⟨#[116]⟩ : ByteArray), y149⟩ : S77) [.string (⟨#[116]⟩ : ByteArray), .slice Ao4 y149.length co4] from (k77_mkF _ _ (⟨(⟨#[116]⟩ : ByteArray), y149⟩ : S77) (Kd.R_reads' (Kd.R_mono (ok' := (fun k_ => (w.heap.size ≤ k_) ∧ k_ ≠ gb148)) (Kd.R_types (HO151.out) BK148.out (by decide)) (fun k_ hk => ⟨hk.1.1, hk.2⟩))).2.1 (Kd.R_F (Kd.R_mono (ok' := (fun k_ => (w.heap.size ≤ k_) ∧ k_ ≠ gb148)) (Kd.R_types (HO151.out) BK148.out (by decide)) (fun k_ hk => ⟨hk.1.1, hk.2⟩))))) (Reps.none _ _))); intro v153 w5 ho6 hb hg_ hnew_; clear hg_ hnew_; (first | rw [← Ny152.out] at ho6 | (simp only [Int.reduceToNat] at ho6; rw [← Ny152.out] at ho6)); have n0_ := Aside0.mk (Kd.N_lower ho6 (below_size (by repeat (first | (with_reducible first | exact HB.out | apply below_alloc | apply pw_below_drewN | apply below_drew1 | refine below_set ?_ GE148.out) | exact HB.out)))); have n1_ := Aside0.mk (blk_below (g := gb148) (o := .cells #[.int .i64 0, .int .i64 0, .int .i64 0, .slice none 0 0, .slice none 0 0] 40 (0, 0)) (by (with_reducible repeat (first | refine blk_drewN ?_ _ | refine blk_drew ?_ | refine blk_alloc ?_ _)); exact BK148.out) hb); have n2_ := Aside0.mk (below_step (by repeat (first | (with_reducible first | exact HB.out | apply below_alloc | apply pw_below_drewN | apply below_drew1 | refine below_set ?_ GE148.out) | exact HB.out)) hb); clear BK148; clear HB; clear HO151; have HO154 := n0_; have BK148 := n1_; have HB := n2_; clear n0_ n1_ n2_; clear hb ho6) | ((with_reducible refine gate_dst (N := 6) rfl ?_); refine Kd.R_lit (Kd.int .i64) _ 3 ?hg (N := 6) ?hd (xs := ([0, 1] : List Int)) (inner := [.int .i64 0, .int .i64 1]) (ok := fun _ => True) (okp := fun _ => True) ?hr ?hp (fun _ hk => hk) trivial (Below.refl _ _) (Nat.le_refl _) (by simp) ?_; (case hd => rfl); (case hg => rfl); (case hr => first | (go_simp; done) | (go_simp; rfl)); (case hp => exact (Reps.one (show Kd.M (Kd.int .i64) _ _ _ 0 [.int .i64 0] from rfl) (Reps.one (show Kd.M (Kd.int .i64) _ _ _ 1 [.int .i64 1] from rfl) (Reps.none _ _)))); intro v156 w7 ho8 hb hg_ hnew_; clear hg_ hnew_; (first | rw [← Ny155.out] at ho8 | (simp only [Int.reduceToNat] at ho8; rw [← Ny155.out] at ho8)); have n0_ := Aside0.mk (Kd.N_elder' (by (with_reducible repeat (first | apply Kd.N_alloc | apply Kd.N_drewN | apply Kd.N_drew)); exact HO154.out) (Kd.R_base ho8) hb); have n1_ := Aside0.mk (Kd.R_lower (Kd.R_newM (M := fun k_ => (w.heap.size ≤ k_)) ho8 (below_size (by repeat (first | (with_reducible first | exact HB.out | apply below_alloc | apply pw_below_drewN | apply below_drew1 | refine below_set ?_ GE148.out) | exact HB.out))) (fun k_ h_ => h_)) (below_size (by repeat (first | (with_reducible first | exact HB.out | apply below_alloc | apply pw_below_drewN | apply below_drew1 | refine below_set ?_ GE148.out) | exact HB.out)))); have n2_ := Aside0.mk (blk_below (g := gb148) (o := .cells #[.int .i64 0, .int .i64 0, .int .i64 0, .slice none 0 0, .slice none 0 0] 40 (0, 0)) (by (with_reducible repeat (first | refine blk_drewN ?_ _ | refine blk_drew ?_ | refine blk_alloc ?_ _)); exact BK148.out) hb); have n3_ := Aside0.mk (below_step (by repeat (first | (with_reducible first | exact HB.out | apply below_alloc | apply pw_below_drewN | apply below_drew1 | refine below_set ?_ GE148.out) | exact HB.out)) hb); clear HO154; clear BK148; clear HB; have HO154 := n0_; have HO157 := n1_; have BK148 := n2_; have HB := n3_; clear n0_ n1_ n2_ n3_; clear hb ho8; obtain ⟨Ao9, co9, eo9⟩ := Kd.R_slice HO157.out; subst eo9) | ((with_reducible refine gate_dst (N := 8) rfl ?_); refine Kd.R_lit (Kd.int .i64) _ 3 ?hg (N := 8) ?hd (xs := ([0] : List Int)) (inner := [.int .i64 0]) (ok := fun _ => True) (okp := fun _ => True) ?hr ?hp (fun _ hk => hk) trivial (Below.refl _ _) (Nat.le_refl _) (by simp) ?_; (case hd => rfl); (case hg => rfl); (case hr => first | (go_simp; done) | (go_simp; rfl)); (case hp => exact (Reps.one (show Kd.M (Kd.int .i64) _ _ _ 0 [.int .i64 0] from rfl) (Reps.none _ _))); intro v159 w10 ho11 hb hg_ hnew_; clear hg_ hnew_; (first | rw [← Ny158.out] at ho11 | (simp only [Int.reduceToNat] at ho11; rw [← Ny158.out] at ho11)); have n0_ := Aside0.mk (Kd.N_elder' (by (with_reducible repeat (first | apply Kd.N_alloc | apply Kd.N_drewN | apply Kd.N_drew)); exact HO154.out) (Kd.R_base ho11) hb); have n1_ := Aside0.mk (Kd.R_elder' (by (with_reducible repeat (first | apply Kd.R_alloc | apply Kd.R_drewN | apply Kd.R_drew)); exact HO157.out) (Kd.R_base ho11) hb); have n2_ := Aside0.mk (Kd.R_lower (Kd.R_new' (Kd.R_newM (M := fun k_ => (w.heap.size ≤ k_)) ho11 (below_size (by repeat (first | (with_reducible first | exact HB.out | apply below_alloc | apply pw_below_drewN | apply below_drew1 | refine below_set ?_ GE148.out) | exact HB.out))) (fun k_ h_ => h_)) (Kd.R_lt (by (with_reducible repeat (first | apply Kd.R_alloc | apply Kd.R_drewN | apply Kd.R_drew)); exact HO157.out))) (below_size (by repeat (first | (with_reducible first | exact HB.out | apply below_alloc | apply pw_below_drewN | apply below_drew1 | refine below_set ?_ GE148.out) | exact HB.out)))); have n3_ := Aside0.mk (blk_below (g := gb148) (o := .cells #[.int .i64 0, .int .i64 0, .int .i64 0, .slice none 0 0, .slice none 0 0] 40 (0, 0)) (by (with_reducible repeat (first | refine blk_drewN ?_ _ | refine blk_drew ?_ | refine blk_alloc ?_ _)); exact BK148.out) hb); have n4_ := Aside0.mk (below_step (by repeat (first | (with_reducible first | exact HB.out | apply below_alloc | apply pw_below_drewN | apply below_drew1 | refine below_set ?_ GE148.out) | exact HB.out)) hb); clear HO154; clear HO157; clear BK148; clear HB; have HO154 := n0_; have HO157 := n1_; have HO160 := n2_; have BK148 := n3_; have HB := n4_; clear n0_ n1_ n2_ n3_ n4_; clear hb ho11; obtain ⟨Ao12, co12, eo12⟩ := Kd.R_slice HO160.out; subst eo12) | ((with_reducible refine gate_dst (N := 10) rfl ?_); refine Kd.R_lit (Kd.int .i64) _ 3 ?hg (N := 10) ?hd (xs := ([1] : List Int)) (inner := [.int .i64 1]) (ok := fun _ => True) (okp := fun _ => True) ?hr ?hp (fun _ hk => hk) trivial (Below.refl _ _) (Nat.le_refl _) (by simp) ?_; (case hd => rfl); (case hg => rfl); (case hr => first | (go_simp; done) | (go_simp; rfl)); (case hp => exact (Reps.one (show Kd.M (Kd.int .i64) _ _ _ 1 [.int .i64 1] from rfl) (Reps.none _ _))); intro v162 w13 ho14 hb hg_ hnew_; clear hg_ hnew_; (first | rw [← Ny161.out] at ho14 | (simp only [Int.reduceToNat] at ho14; rw [← Ny161.out] at ho14)); have n0_ := Aside0.mk (Kd.N_elder' (by (with_reducible repeat (first | apply Kd.N_alloc | apply Kd.N_drewN | apply Kd.N_drew)); exact HO154.out) (Kd.R_base ho14) hb); have n1_ := Aside0.mk (Kd.R_elder' (by (with_reducible repeat (first | apply Kd.R_alloc | apply Kd.R_drewN | apply Kd.R_drew)); exact HO157.out) (Kd.R_base ho14) hb); have n2_ := Aside0.mk (Kd.R_elder' (by (with_reducible repeat (first | apply Kd.R_alloc | apply Kd.R_drewN | apply Kd.R_drew)); exact HO160.out) (Kd.R_base ho14) hb); have n3_ := Aside0.mk (Kd.R_lower (Kd.R_new' (Kd.R_new' (Kd.R_newM (M := fun k_ => (w.heap.size ≤ k_)) ho14 (below_size (by repeat (first | (with_reducible first | exact HB.out | apply below_alloc | apply pw_below_drewN | apply below_drew1 | refine below_set ?_ GE148.out) | exact HB.out))) (fun k_ h_ => h_)) (Kd.R_lt (by (with_reducible repeat (first | apply Kd.R_alloc | apply Kd.R_drewN | apply Kd.R_drew)); exact HO157.out))) (Kd.R_lt (by (with_reducible repeat (first | apply Kd.R_alloc | apply Kd.R_drewN | apply Kd.R_drew)); exact HO160.out))) (below_size (by repeat (first | (with_reducible first | exact HB.out | apply below_alloc | apply pw_below_drewN | apply below_drew1 | refine below_set ?_ GE148.out) | exact HB.out)))); have n4_ := Aside0.mk (blk_below (g := gb148) (o := .cells #[.int .i64 0, .int .i64 0, .int .i64 0, .slice none 0 0, .slice none 0 0] 40 (0, 0)) (by (with_reducible repeat (first | refine blk_drewN ?_ _ | refine blk_drew ?_ | refine blk_alloc ?_ _)); exact BK148.out) hb); have n5_ := Aside0.mk (below_step (by repeat (first | (with_reducible first | exact HB.out | apply below_alloc | apply pw_below_drewN | apply below_drew1 | refine below_set ?_ GE148.out) | exact HB.out)) hb); clear HO154; clear HO157; clear HO160; clear BK148; clear HB; have HO154 := n0_; have HO157 := n1_; have HO160 := n2_; have HO163 := n3_; have BK148 := n4_; have HB := n5_; clear n0_ n1_ n2_ n3_ n4_ n5_; clear hb ho14; obtain ⟨Ao15, co15, eo15⟩ := Kd.R_slice HO163.out; subst eo15) | ((with_reducible refine gate_dst (N := 12) rfl ?_); refine Kd.N_lit k80 _ 80 ?hg (N' := 12) ?hd (xs := ([(⟨(⟨#[112]⟩ : ByteArray), 0, y155, ([] : List Int), 0, 0⟩ : S80), (⟨(⟨#[113]⟩ : ByteArray), 0, y158, ([] : List Int), 0, 0⟩ : S80), (⟨(⟨#[114]⟩ : ByteArray), 0, y161, ([] : List Int), 1, 0⟩ : S80)] : List (S80))) (inner := [.string (⟨#[112]⟩ : ByteArray), .int .i64 0, .slice Ao9 y155.length co9, .slice none 0 0, .int .i64 0, .int .i64 0, .string (⟨#[113]⟩ : ByteArray), .int .i64 0, .slice Ao12 y158.length co12, .slice none 0 0, .int .i64 0, .int .i64 0, .string (⟨#[114]⟩ : ByteArray), .int .i64 0, .slice Ao15 y161.length co15, .slice none 0 0, .int .i64 1, .int .i64 0]) (ok := (fun k_ => (w.heap.size ≤ k_) ∧ some k_ ≠ (v153 : Value).ownBlock ∧ k_ ≠ gb148)) (okp := (fun k_ => (w.heap.size ≤ k_) ∧ some k_ ≠ (v153 : Value).ownBlock ∧ k_ ≠ gb148)) ?hr ?hp (fun _ hk => hk) ((show ∀ k_, w13.heap.size ≤ k_ → (fun k_ => (w.heap.size ≤ k_) ∧ some k_ ≠ (v153 : Value).ownBlock ∧ k_ ≠ gb148) k_ from fun k_ hk => ⟨(Nat.le_trans (below_size (by repeat (first | (with_reducible first | exact HB.out | apply below_alloc | apply pw_below_drewN | apply below_drew1 | refine below_set ?_ GE148.out) | exact HB.out))) hk), Kd.fresh' (Kd.N_lt (by (with_reducible repeat (first | apply Kd.N_alloc | apply Kd.N_drewN | apply Kd.N_drew)); exact HO154.out)) k_ hk, Kd.freshB (g := gb148) (o := .cells #[.int .i64 0, .int .i64 0, .int .i64 0, .slice none 0 0, .slice none 0 0] 40 (0, 0)) (by (with_reducible repeat (first | refine blk_drewN ?_ _ | refine blk_drew ?_ | refine blk_alloc ?_ _)); exact BK148.out) k_ hk⟩) _ (Nat.le_refl _)) (Below.refl _ _) (Nat.le_refl _) (by simp) ?_; (case hd => rfl); (case hg => rfl); (case hr => first | (go_simp; done) | (go_simp; rfl)); (case hp => exact (Reps.c6 (show Kd.FK k80 _ _ (⟨(⟨#[112]⟩ : ByteArray), 0, y155, ([] : List Int), 0, 0⟩ : S80) [.string (⟨#[112]⟩ : ByteArray), .int .i64 0, .slice Ao9 y155.length co9, .slice none 0 0, .int .i64 0, .int .i64 0] from (k80_mkF _ _ (⟨(⟨#[112]⟩ : ByteArray), 0, y155, ([] : List Int), 0, 0⟩ : S80) (Kd.R_reads' (Kd.R_mono (ok' := (fun k_ => (w.heap.size ≤ k_) ∧ some k_ ≠ (v153 : Value).ownBlock ∧ k_ ≠ gb148)) (Kd.R_types (Kd.R_apart' (HO157.out) (Kd.N_typed HO154.out) (by decide)) BK148.out (by decide)) (fun k_ hk => ⟨hk.1.1.1.1.1, ⟨hk.1.2, hk.2⟩⟩))).2.1 (Kd.R_F (Kd.R_mono (ok' := (fun k_ => (w.heap.size ≤ k_) ∧ some k_ ≠ (v153 : Value).ownBlock ∧ k_ ≠ gb148)) (Kd.R_types (Kd.R_apart' (HO157.out) (Kd.N_typed HO154.out) (by decide)) BK148.out (by decide)) (fun k_ hk => ⟨hk.1.1.1.1.1, ⟨hk.1.2, hk.2⟩⟩))) (Nat.le_refl _) (Kd.F_nil _ _ _))) (Reps.c6 (show Kd.FK k80 _ _ (⟨(⟨#[113]⟩ : ByteArray), 0, y158, ([] : List Int), 0, 0⟩ : S80) [.string (⟨#[113]⟩ : ByteArray), .int .i64 0, .slice Ao12 y158.length co12, .slice none 0 0, .int .i64 0, .int .i64 0] from (k80_mkF _ _ (⟨(⟨#[113]⟩ : ByteArray), 0, y158, ([] : List Int), 0, 0⟩ : S80) (Kd.R_reads' (Kd.R_mono (ok' := (fun k_ => (w.heap.size ≤ k_) ∧ some k_ ≠ (v153 : Value).ownBlock ∧ k_ ≠ gb148)) (Kd.R_types (Kd.R_apart' (HO160.out) (Kd.N_typed HO154.out) (by decide)) BK148.out (by decide)) (fun k_ hk => ⟨hk.1.1.1.1.1, ⟨hk.1.2, hk.2⟩⟩))).2.1 (Kd.R_F (Kd.R_mono (ok' := (fun k_ => (w.heap.size ≤ k_) ∧ some k_ ≠ (v153 : Value).ownBlock ∧ k_ ≠ gb148)) (Kd.R_types (Kd.R_apart' (HO160.out) (Kd.N_typed HO154.out) (by decide)) BK148.out (by decide)) (fun k_ hk => ⟨hk.1.1.1.1.1, ⟨hk.1.2, hk.2⟩⟩))) (Nat.le_refl _) (Kd.F_nil _ _ _))) (Reps.c6 (show Kd.FK k80 _ _ (⟨(⟨#[114]⟩ : ByteArray), 0, y161, ([] : List Int), 1, 0⟩ : S80) [.string (⟨#[114]⟩ : ByteArray), .int .i64 0, .slice Ao15 y161.length co15, .slice none 0 0, .int .i64 1, .int .i64 0] from (k80_mkF _ _ (⟨(⟨#[114]⟩ : ByteArray), 0, y161, ([] : List Int), 1, 0⟩ : S80) (Kd.R_reads' (Kd.R_mono (ok' := (fun k_ => (w.heap.size ≤ k_) ∧ some k_ ≠ (v153 : Value).ownBlock ∧ k_ ≠ gb148)) (Kd.R_types (Kd.R_apart' (HO163.out) (Kd.N_typed HO154.out) (by decide)) BK148.out (by decide)) (fun k_ hk => ⟨hk.1.1.1.1.1, ⟨hk.1.2, hk.2⟩⟩))).2.1 (Kd.R_F (Kd.R_mono (ok' := (fun k_ => (w.heap.size ≤ k_) ∧ some k_ ≠ (v153 : Value).ownBlock ∧ k_ ≠ gb148)) (Kd.R_types (Kd.R_apart' (HO163.out) (Kd.N_typed HO154.out) (by decide)) BK148.out (by decide)) (fun k_ hk => ⟨hk.1.1.1.1.1, ⟨hk.1.2, hk.2⟩⟩))) (Nat.le_refl _) (Kd.F_nil _ _ _))) (Reps.none _ _))))); intro v165 w16 ho17 hb hg_ hnew_; clear hg_ hnew_; (first | rw [← Ny164.out] at ho17 | (simp only [Int.reduceToNat] at ho17; rw [← Ny164.out] at ho17)); have n0_ := Aside0.mk (Kd.N_elder' (by (with_reducible repeat (first | apply Kd.N_alloc | apply Kd.N_drewN | apply Kd.N_drew)); exact HO154.out) (Kd.N_base ho17) hb); have n1_ := Aside0.mk (Kd.N_lower ho17 (below_size (by repeat (first | (with_reducible first | exact HB.out | apply below_alloc | apply pw_below_drewN | apply below_drew1 | refine below_set ?_ GE148.out) | exact HB.out)))); have n2_ := Aside0.mk (blk_below (g := gb148) (o := .cells #[.int .i64 0, .int .i64 0, .int .i64 0, .slice none 0 0, .slice none 0 0] 40 (0, 0)) (by (with_reducible repeat (first | refine blk_drewN ?_ _ | refine blk_drew ?_ | refine blk_alloc ?_ _)); exact BK148.out) hb); have n3_ := Aside0.mk (below_step (by repeat (first | (with_reducible first | exact HB.out | apply below_alloc | apply pw_below_drewN | apply below_drew1 | refine below_set ?_ GE148.out) | exact HB.out)) hb); clear HO154; clear BK148; clear HB; clear HO157; clear HO160; clear HO163; have HO154 := n0_; have HO166 := n1_; have BK148 := n2_; have HB := n3_; clear n0_ n1_ n2_ n3_; clear hb ho17; obtain ⟨Ao18, co18, eo18⟩ := Kd.N_slice HO166.out; subst eo18; obtain ⟨Ao19, co19, eo19⟩ := Kd.N_slice HO154.out; subst eo19; have hcz20_0 : w16.cell? ⟨gb148, 0, none⟩ = some (.int .i64 0) := (blk_cell BK148.out 0).trans rfl; have hcz20_1 : w16.cell? ⟨gb148, 1, none⟩ = some (.int .i64 0) := (blk_cell BK148.out 1).trans rfl; have hcz20_2 : w16.cell? ⟨gb148, 2, none⟩ = some (.int .i64 0) := (blk_cell BK148.out 2).trans rfl; have hcz20_3 : w16.cell? ⟨gb148, 3, none⟩ = some (.slice none 0 0) := (blk_cell BK148.out 3).trans rfl; have hcz20_4 : w16.cell? ⟨gb148, 4, none⟩ = some (.slice none 0 0) := (blk_cell BK148.out 4).trans rfl; have hfz20_0 := blk_frozen BK148.out 0; have hfz20_1 := blk_frozen BK148.out 1; have hfz20_2 := blk_frozen BK148.out 2; have hfz20_3 := blk_frozen BK148.out 3; have hfz20_4 := blk_frozen BK148.out 4))
  refine bodyPost_ret (results_cell_row rfl _ _ gb148 40 #[.int .i64 1, .int .i64 1, .int .i64 0, .slice Ao19 y152.length co19, .slice Ao18 y164.length co18] (0, 0) _ rfl (by (with_reducible repeat (first | refine blk_drewN ?_ _ | refine blk_drew ?_ | refine blk_alloc ?_ _)); refine blk_put (cs := #[.int .i64 1, .int .i64 1, .int .i64 0, .slice Ao19 y152.length co19, .slice none 0 0]) ?_ 4 _ rfl; (with_reducible repeat (first | refine blk_drewN ?_ _ | refine blk_drew ?_ | refine blk_alloc ?_ _)); refine blk_put (cs := #[.int .i64 1, .int .i64 1, .int .i64 0, .slice none 0 0, .slice none 0 0]) ?_ 3 _ rfl; (with_reducible repeat (first | refine blk_drewN ?_ _ | refine blk_drew ?_ | refine blk_alloc ?_ _)); refine blk_put (cs := #[.int .i64 1, .int .i64 1, .int .i64 0, .slice none 0 0, .slice none 0 0]) ?_ 2 _ rfl; (with_reducible repeat (first | refine blk_drewN ?_ _ | refine blk_drew ?_ | refine blk_alloc ?_ _)); refine blk_put (cs := #[.int .i64 1, .int .i64 0, .int .i64 0, .slice none 0 0, .slice none 0 0]) ?_ 1 _ rfl; (with_reducible repeat (first | refine blk_drewN ?_ _ | refine blk_drew ?_ | refine blk_alloc ?_ _)); refine blk_put (cs := #[.int .i64 0, .int .i64 0, .int .i64 0, .slice none 0 0, .slice none 0 0]) ?_ 0 _ rfl; (with_reducible repeat (first | refine blk_drewN ?_ _ | refine blk_drew ?_ | refine blk_alloc ?_ _)); exact BK148.out) Tryd.underlying40 rfl (by kernel_rfl)) rfl ?_
  exact ⟨_, _, by first | rfl | (simp [errW_none, errW_some] <;> rfl) | (simp [*, errW_none, errW_some] <;> rfl), by (with_reducible repeat (first | apply Kd.N_alloc | apply Kd.N_drewN | apply Kd.N_drew)); exact Kd.N_mono (Kd.N_far (p := ⟨gb148, 4, none⟩) (Kd.N_far (p := ⟨gb148, 3, none⟩) (Kd.N_far (p := ⟨gb148, 2, none⟩) (Kd.N_far (p := ⟨gb148, 1, none⟩) (Kd.N_far (p := ⟨gb148, 0, none⟩) (Kd.N_mono HO154.out (fun k_ hk => (⟨hk, hk.1.1.1.1.2⟩ : _ ∧ k_ ≠ gb148))) (fun _ hk => hk.2) (.int .i64 1)) (fun _ hk => hk.2) (.int .i64 1)) (fun _ hk => hk.2) (.int .i64 0)) (fun _ hk => hk.2) (.slice Ao19 y152.length co19)) (fun _ hk => hk.2) (.slice Ao18 y164.length co18)) (fun _ hk => ⟨hk.1.1.1.1.1.1, hk.1.2⟩), by (with_reducible repeat (first | apply Kd.N_alloc | apply Kd.N_drewN | apply Kd.N_drew)); exact Kd.N_mono (Kd.N_far (p := ⟨gb148, 4, none⟩) (Kd.N_far (p := ⟨gb148, 3, none⟩) (Kd.N_far (p := ⟨gb148, 2, none⟩) (Kd.N_far (p := ⟨gb148, 1, none⟩) (Kd.N_far (p := ⟨gb148, 0, none⟩) (Kd.N_mono HO166.out (fun k_ hk => (⟨hk, hk.2.2⟩ : _ ∧ k_ ≠ gb148))) (fun _ hk => hk.2) (.int .i64 1)) (fun _ hk => hk.2) (.int .i64 1)) (fun _ hk => hk.2) (.int .i64 0)) (fun _ hk => hk.2) (.slice Ao19 y152.length co19)) (fun _ hk => hk.2) (.slice Ao18 y164.length co18)) (fun _ hk => ⟨hk.1.1, hk.1.2.1⟩), by repeat (first | (with_reducible first | exact HB.out | apply below_alloc | apply pw_below_drewN | apply below_drew1 | refine below_set ?_ GE148.out) | exact HB.out)⟩

-- NOT PRINTED: function 7 (hayloftlaw16_turned)

end Go.Proofs.YtihdlalbgdighaaDoor.QV
/- The kinds of the program's plain data: a value, a term, a column, a name of a row, a version; with what their cells are. -/
namespace Go.Proofs.YtihdlalbgdighaaDoor.Op
open Go.RowKit Go.Proofs.YtihdlalbgdighaaDoorW.PrintWords
set_option linter.unusedVariables false

/-- api.Value -/
@[ext] structure V where
  k : Int
  b : Bool
  i : Int
  s : ByteArray
def V.cells (x : V) : List Value := [.int .i64 x.k, .bool x.b, .int .i64 x.i, .string x.s]
def V.val (x : V) : Value := .agg #[.int .i64 x.k, .bool x.b, .int .i64 x.i, .string x.s]
def V.z : V := ⟨0, false, 0, ByteArray.empty⟩
def kV : Kd V := Kd.iso (Kd.pair (Kd.int .i64) (Kd.pair Kd.bool (Kd.pair (Kd.int .i64) Kd.string))) (fun x => (x.k, x.b, x.i, x.s))
theorem kV_open {w : World} {x : V} {cs : List Value} (h : kV.K w x cs) : cs = x.cells := by
  obtain ⟨_, _, rfl, rfl, ⟨_, _, rfl, rfl, ⟨_, _, rfl, rfl, rfl⟩⟩⟩ := h
  rfl
/-- The four cells of a value at an address, as the walk asks for them. -/
def V.At (w : World) (p : Addr) (x : V) : Prop :=
  p.block < w.heap.size ∧ w.cell? p = some (.int .i64 x.k) ∧ w.cell? ⟨p.block, p.off + 1, none⟩ = some (.bool x.b) ∧ w.cell? ⟨p.block, p.off + 2, none⟩ = some (.int .i64 x.i) ∧ w.cell? ⟨p.block, p.off + 3, none⟩ = some (.string x.s)
theorem kV_at {w : World} {A : Option Addr} {n : Nat} {xs : List V} (h : kV.C w A n xs) (i : Nat) (hi : i < n) : ∃ ad, A = some ad ∧ V.At w (ad.add (i * 4)) (xs.getD i V.z) := by
  obtain ⟨ad, c, e, _, hK, hc0⟩ := Kd.C_get h V.z i (by omega) (by omega)
  have hc : ∀ j u, c[j]? = some u → w.cell? (ad.add (i * 4 + j)) = some u := hc0
  obtain rfl := kV_open hK
  rw [show ((i : Int)).toNat = i from by omega] at hc
  exact ⟨ad, e, World.block_lt_of_cell? w _ (hc 0 _ rfl), hc 0 _ rfl, by rw [← add_field _ _ 1 (by omega)]; exact hc 1 _ rfl, by rw [← add_field _ _ 2 (by omega)]; exact hc 2 _ rfl, by rw [← add_field _ _ 3 (by omega)]; exact hc 3 _ rfl⟩

/-- api.Term -/
structure T where
  c : Int
  o : Int
  v : V
def T.cells (x : T) : List Value := [.int .i64 x.c, .int .i64 x.o, .int .i64 x.v.k, .bool x.v.b, .int .i64 x.v.i, .string x.v.s]
def T.val (x : T) : Value := .agg #[.int .i64 x.c, .int .i64 x.o, .int .i64 x.v.k, .bool x.v.b, .int .i64 x.v.i, .string x.v.s]
def T.z : T := ⟨0, 0, V.z⟩
def kT : Kd T := Kd.iso (Kd.pair (Kd.int .i64) (Kd.pair (Kd.int .i64) kV)) (fun x => (x.c, x.o, x.v))
theorem kT_open {w : World} {x : T} {cs : List Value} (h : kT.K w x cs) : cs = x.cells := by
  obtain ⟨_, _, rfl, rfl, ⟨_, _, rfl, rfl, h⟩⟩ := h
  rw [kV_open h]; rfl
def T.At (w : World) (p : Addr) (x : T) : Prop :=
  p.block < w.heap.size ∧ w.cell? p = some (.int .i64 x.c) ∧ w.cell? ⟨p.block, p.off + 1, none⟩ = some (.int .i64 x.o) ∧ w.cell? ⟨p.block, p.off + 2, none⟩ = some (.int .i64 x.v.k) ∧ w.cell? ⟨p.block, p.off + 3, none⟩ = some (.bool x.v.b) ∧ w.cell? ⟨p.block, p.off + 4, none⟩ = some (.int .i64 x.v.i) ∧ w.cell? ⟨p.block, p.off + 5, none⟩ = some (.string x.v.s)
theorem kT_at {w : World} {A : Option Addr} {n : Nat} {xs : List T} (h : kT.C w A n xs) (i : Nat) (hi : i < n) : ∃ ad, A = some ad ∧ T.At w (ad.add (i * 6)) (xs.getD i T.z) := by
  obtain ⟨ad, c, e, _, hK, hc0⟩ := Kd.C_get h T.z i (by omega) (by omega)
  have hc : ∀ j u, c[j]? = some u → w.cell? (ad.add (i * 6 + j)) = some u := hc0
  obtain rfl := kT_open hK
  rw [show ((i : Int)).toNat = i from by omega] at hc
  exact ⟨ad, e, World.block_lt_of_cell? w _ (hc 0 _ rfl), hc 0 _ rfl, by rw [← add_field _ _ 1 (by omega)]; exact hc 1 _ rfl, by rw [← add_field _ _ 2 (by omega)]; exact hc 2 _ rfl, by rw [← add_field _ _ 3 (by omega)]; exact hc 3 _ rfl, by rw [← add_field _ _ 4 (by omega)]; exact hc 4 _ rfl, by rw [← add_field _ _ 5 (by omega)]; exact hc 5 _ rfl⟩

/-- Behind what only makes memory: every old cell and every old mark reads as before. -/
theorem bcell {W w1 : World} (hb : Below W.heap.size W w1) : (∀ b o, b < W.heap.size → w1.cell? ⟨b, o, none⟩ = W.cell? ⟨b, o, none⟩) ∧ (∀ b o, b < W.heap.size → w1.frozen? ⟨b, o, none⟩ = W.frozen? ⟨b, o, none⟩) :=
  ⟨fun b o h => hb.cell (p := ⟨b, o, none⟩) h, fun b o h => hb.frozen (p := ⟨b, o, none⟩) h⟩
theorem V.At.below {W w1 : World} {p : Addr} {x : V} (h : V.At W p x) (hb : Below W.heap.size W w1) : V.At w1 p x :=
  ⟨Nat.lt_of_lt_of_le h.1 hb.size, pw_cell_below hb h.2.1, pw_cell_below hb h.2.2.1, pw_cell_below hb h.2.2.2.1, pw_cell_below hb h.2.2.2.2⟩
theorem T.At.below {W w1 : World} {p : Addr} {x : T} (h : T.At W p x) (hb : Below W.heap.size W w1) : T.At w1 p x :=
  ⟨Nat.lt_of_lt_of_le h.1 hb.size, pw_cell_below hb h.2.1, pw_cell_below hb h.2.2.1, pw_cell_below hb h.2.2.2.1, pw_cell_below hb h.2.2.2.2.1, pw_cell_below hb h.2.2.2.2.2.1, pw_cell_below hb h.2.2.2.2.2.2⟩
theorem slice_alloc (w : World) (o : Obj) (n c : Nat) : Value.slice (some ⟨w.heap.size + 1, 0, none⟩) n c = Value.slice (some ⟨(w.alloc o).heap.size, 0, none⟩) n c := by rw [World.size_alloc]
theorem ret_int {k : IntKind} {a b : Int} (h : b = a) : Ending.returned (.int k a) = .returned (.int k b) := by rw [h]
theorem ret_bool {a b : Bool} (h : b = a) : Ending.returned (.bool a) = .returned (.bool b) := by rw [h]
end Go.Proofs.YtihdlalbgdighaaDoor.Op
/- The order of values and of rows, in plain Lean: it is total; what is alike, of right values, is the same. -/
namespace Go.Proofs.YtihdlalbgdighaaDoor.Op
set_option linter.unusedVariables false

def cmpI (a b : Int) : Int := if a < b then -1 else if b < a then 1 else 0
theorem cmpI_range (a b : Int) : -1 ≤ cmpI a b ∧ cmpI a b ≤ 1 := by unfold cmpI; repeat' split <;> omega
theorem cmpI_swap (a b : Int) : cmpI b a = -cmpI a b := by unfold cmpI; repeat' split <;> omega
theorem cmpI_zero (a b : Int) : cmpI a b = 0 ↔ a = b := by unfold cmpI; repeat' split <;> omega
theorem cmpI_le (a b : Int) : cmpI a b ≤ 0 ↔ a ≤ b := by unfold cmpI; repeat' split <;> omega
def cmpV (x y : V) : Int := if x.k ≠ y.k then cmpI x.k y.k else if x.k = 1 then (if x.b = y.b then 0 else if y.b then -1 else 1) else if x.k = 2 then cmpI x.i y.i else if x.k = 3 then Lib.compareBytes x.s.data.toList y.s.data.toList else 0
theorem compareBytes_range : ∀ a b : List UInt8, -1 ≤ Lib.compareBytes a b ∧ Lib.compareBytes a b ≤ 1
  | [], [] => by simp [Lib.compareBytes]
  | [], _ :: _ => by simp [Lib.compareBytes]
  | _ :: _, [] => by simp [Lib.compareBytes]
  | x :: r, y :: q => by
    have := compareBytes_range r q
    unfold Lib.compareBytes
    split
    · omega
    · split
      · omega
      · exact this
theorem cmpV_range (x y : V) : -1 ≤ cmpV x y ∧ cmpV x y ≤ 1 := by
  have h1 := cmpI_range x.k y.k
  have h2 := cmpI_range x.i y.i
  have h3 := compareBytes_range x.s.data.toList y.s.data.toList
  unfold cmpV
  repeat' split <;> omega
theorem compareBytes_swap : ∀ a b : List UInt8, Lib.compareBytes b a = -Lib.compareBytes a b
  | [], [] => rfl
  | [], _ :: _ => rfl
  | _ :: _, [] => rfl
  | x :: r, y :: q => by
    have ih := compareBytes_swap r q
    unfold Lib.compareBytes
    by_cases h : x < y
    · have : ¬ y < x := UInt8.lt_asymm h
      rw [if_neg this, if_pos h, if_pos h]; rfl
    · by_cases h' : y < x
      · rw [if_pos h', if_neg h, if_pos h']
      · rw [if_neg h', if_neg h, if_neg h, if_neg h']; exact ih
theorem u8_eq {x y : UInt8} (h : ¬ x < y) (h' : ¬ y < x) : x = y := UInt8.le_antisymm (UInt8.not_lt.1 h') (UInt8.not_lt.1 h)
theorem compareBytes_zero : ∀ a b : List UInt8, Lib.compareBytes a b = 0 ↔ a = b
  | [], [] => by simp [Lib.compareBytes]
  | [], _ :: _ => by simp [Lib.compareBytes]
  | _ :: _, [] => by simp [Lib.compareBytes]
  | x :: r, y :: q => by
    have ih := compareBytes_zero r q
    unfold Lib.compareBytes
    by_cases h : x < y
    · rw [if_pos h]
      refine ⟨fun e => by omega, fun e => ?_⟩
      have : x = y := (List.cons.inj e).1
      subst this
      exact absurd h (UInt8.lt_irrefl x)
    · by_cases h' : y < x
      · rw [if_neg h, if_pos h']
        refine ⟨fun e => by omega, fun e => ?_⟩
        have : x = y := (List.cons.inj e).1
        subst this
        exact absurd h' (UInt8.lt_irrefl x)
      · rw [if_neg h, if_neg h', ih, u8_eq h h']
        simp
theorem compareBytes_trans : ∀ a b c : List UInt8, Lib.compareBytes a b ≤ 0 → Lib.compareBytes b c ≤ 0 → Lib.compareBytes a c ≤ 0
  | [], _, [] => by simp [Lib.compareBytes]
  | [], _, _ :: _ => by simp [Lib.compareBytes]
  | _ :: _, [], _ => by simp [Lib.compareBytes]
  | _ :: _, _ :: _, [] => by simp [Lib.compareBytes]
  | x :: r, y :: q, z :: s => by
    have ih := compareBytes_trans r q s
    unfold Lib.compareBytes
    intro h1 h2
    by_cases a1 : x < y
    · by_cases b1 : y < z
      · rw [if_pos (UInt8.lt_trans a1 b1)]; omega
      · by_cases b2 : z < y
        · rw [if_neg b1, if_pos b2] at h2; omega
        · rw [← u8_eq b1 b2, if_pos a1]; omega
    · by_cases a2 : y < x
      · rw [if_neg a1, if_pos a2] at h1; omega
      · have := u8_eq a1 a2
        subst this
        rw [if_neg a1, if_neg a1] at h1
        by_cases b1 : x < z
        · rw [if_pos b1]; omega
        · by_cases b2 : z < x
          · rw [if_neg b1, if_pos b2] at h2; omega
          · rw [if_neg b1, if_neg b2] at h2 ⊢
            exact ih h1 h2
theorem cmpV_ne {x y : V} (h : x.k ≠ y.k) : cmpV x y = cmpI x.k y.k := by unfold cmpV; rw [if_pos h]
theorem cmpV_1 {x y : V} (h : x.k = 1) (h' : y.k = 1) : cmpV x y = if x.b = y.b then 0 else if y.b then -1 else 1 := by unfold cmpV; rw [if_neg (by omega), if_pos h]
theorem cmpV_2 {x y : V} (h : x.k = 2) (h' : y.k = 2) : cmpV x y = cmpI x.i y.i := by unfold cmpV; rw [if_neg (by omega), if_neg (by omega), if_pos h]
theorem cmpV_3 {x y : V} (h : x.k = 3) (h' : y.k = 3) : cmpV x y = Lib.compareBytes x.s.data.toList y.s.data.toList := by unfold cmpV; rw [if_neg (by omega), if_neg (by omega), if_neg (by omega), if_pos h]
theorem cmpV_o {x y : V} (h : x.k = y.k) (h1 : x.k ≠ 1) (h2 : x.k ≠ 2) (h3 : x.k ≠ 3) : cmpV x y = 0 := by unfold cmpV; rw [if_neg (by omega), if_neg h1, if_neg h2, if_neg h3]
theorem cmpV_swap (x y : V) : cmpV y x = -cmpV x y := by
  by_cases h : x.k = y.k
  · by_cases h1 : x.k = 1
    · rw [cmpV_1 h1 (by omega), cmpV_1 (by omega) h1]
      cases x.b <;> cases y.b <;> rfl
    · by_cases h2 : x.k = 2
      · rw [cmpV_2 h2 (by omega), cmpV_2 (by omega) h2, cmpI_swap]
      · by_cases h3 : x.k = 3
        · rw [cmpV_3 h3 (by omega), cmpV_3 (by omega) h3, compareBytes_swap]
        · rw [cmpV_o h h1 h2 h3, cmpV_o h.symm (by omega) (by omega) (by omega)]; rfl
  · rw [cmpV_ne h, cmpV_ne (fun e => h e.symm), cmpI_swap]
theorem cmpV_self (x : V) : cmpV x x = 0 := by have := cmpV_swap x x; omega
theorem cmpV_trans (x y z : V) (h1 : cmpV x y ≤ 0) (h2 : cmpV y z ≤ 0) : cmpV x z ≤ 0 := by
  by_cases a : x.k = y.k
  · by_cases b : y.k = z.k
    · by_cases k1 : x.k = 1
      · rw [cmpV_1 k1 (by omega)] at h1 ⊢
        rw [cmpV_1 (by omega) (by omega)] at h2
        revert h1 h2
        cases x.b <;> cases y.b <;> cases z.b <;> simp
      · by_cases k2 : x.k = 2
        · rw [cmpV_2 k2 (by omega), cmpI_le] at h1 ⊢
          rw [cmpV_2 (by omega) (by omega), cmpI_le] at h2
          omega
        · by_cases k3 : x.k = 3
          · rw [cmpV_3 k3 (by omega)] at h1 ⊢
            rw [cmpV_3 (by omega) (by omega)] at h2
            exact compareBytes_trans _ _ _ h1 h2
          · rw [cmpV_o (by omega) k1 k2 k3]; omega
    · rw [cmpV_ne b, cmpI_le] at h2
      rw [cmpV_ne (by omega), cmpI_le]; omega
  · rw [cmpV_ne a, cmpI_le] at h1
    by_cases b : y.k = z.k
    · rw [cmpV_ne (by omega), cmpI_le]; omega
    · rw [cmpV_ne b, cmpI_le] at h2
      rw [cmpV_ne (by omega), cmpI_le]; omega

end Go.Proofs.YtihdlalbgdighaaDoor.Op
/- The contracts of Go's library that this seat's texts use, at this program: cut out of what the kit's tools lay. -/
namespace Go.Proofs
open Go.Shelf
def Tryd.lays106_ren : Go.Shelf.Ren := ⟨fun | 106 => 80 | 213 => 97 | 265 => 103 | n => n, fun | 9 => 9 | 3 => 3 | n => n, fun | n => n⟩
theorem Tryd.lays106 : Go.Proofs.Lays.n106 Tryd.prog Tryd.lays106_ren := {
  mixed := by kernel_rfl
  f106 := Tryd.func80.trans (congrArg some (by kernel_rfl))
  f213 := Tryd.func97.trans (congrArg some (by kernel_rfl))
  f265 := Tryd.func103.trans (congrArg some (by kernel_rfl))
  t3 := Tryd.underlying3
  a3 := Tryd.isAgg3
  z3 := Tryd.sizeOf3
  v3 := Tryd.zeroValue3
  t9 := Tryd.underlying9
  a9 := Tryd.isAgg9
  z9 := Tryd.sizeOf9
  v9 := Tryd.zeroValue9 }
open Go.RowKit in
/-- strings.Compare: "Compare returns an integer comparing two strings lexicographically. The result will be 0 if a == b, -1 if a < b, and +1 if a > b.": IT RETURNS 'Lib.compareBytes a b'; the world is as it was. (LAID: no walk: one application.) -/
theorem Tryd.strings_Compare (a b : ByteArray) (w : World) :
    Calls Tryd.prog 80 #[.string a, .string b] w fun e w' => e = .returned (.int .i64 (Lib.compareBytes a.data.toList b.data.toList)) ∧ w' = w := Any.strings_Compare Tryd.lays106 a b w
end Go.Proofs
/- What the functions of package value, and the reference's, tell of values and rows. -/
namespace Go.Proofs.YtihdlalbgdighaaDoor.Op
open Go.RowKit Go.Proofs.YtihdlalbgdighaaDoorW.PrintWords
set_option linter.unusedVariables false

theorem isNaNInt (a : Int) (w : World) : Calls Tryd.prog 95 #[.int .i64 a] w fun e w' => e = .returned (.bool false) ∧ w = w' := by
  go_enter Tryd.func95, Tryd.ntmps95
  go_wp2
  go_ret
  exact ⟨by simp, rfl⟩
theorem isNaNInt64 (a : Int) (w : World) : Calls Tryd.prog 96 #[.int .i64 a] w fun e w' => e = .returned (.bool false) ∧ w = w' := by
  go_enter Tryd.func96, Tryd.ntmps96
  go_wp2
  go_ret
  exact ⟨by simp, rfl⟩
theorem cmpInt (a b : Int) (w : World) : Calls Tryd.prog 78 #[.int .i64 a, .int .i64 b] w fun e w' => e = .returned (.int .i64 (cmpI a b)) ∧ w = w' := by
  go_enter Tryd.func78, Tryd.ntmps78
  go_wp2_with (go_at_call 95; refine (isNaNInt _ _).mono ?_; rintro e w' ⟨rfl, rfl⟩)
  all_goals go_ret
  all_goals refine ⟨ret_int ?_, rfl⟩
  all_goals (unfold cmpI; (repeat split) <;> omega)
theorem cmpInt64 (a b : Int) (w : World) : Calls Tryd.prog 79 #[.int .i64 a, .int .i64 b] w fun e w' => e = .returned (.int .i64 (cmpI a b)) ∧ w = w' := by
  go_enter Tryd.func79, Tryd.ntmps79
  go_wp2_with (go_at_call 96; refine (isNaNInt64 _ _).mono ?_; rintro e w' ⟨rfl, rfl⟩)
  all_goals go_ret
  all_goals refine ⟨ret_int ?_, rfl⟩
  all_goals (unfold cmpI; (repeat split) <;> omega)

set_option maxHeartbeats 1000000 in
theorem compareV (x y : V) (w : World) : Calls Tryd.prog 48 #[x.val, y.val] w fun e w' => e = .returned (.int .i64 (cmpV x y)) ∧ Below w.heap.size w w' := by
  obtain ⟨k, b, i, s⟩ := x
  obtain ⟨k', b', i', s'⟩ := y
  unfold V.val
  go_enter Tryd.func48, Tryd.ntmps48
  go_wp2_with (first | (go_at_call 78; refine (cmpInt _ _ _).mono ?_; rintro e w' ⟨rfl, rfl⟩) | (go_at_call 79; refine (cmpInt64 _ _ _).mono ?_; rintro e w' ⟨rfl, rfl⟩) | (go_at_call 80; refine (Tryd.strings_Compare _ _ _).mono ?_; rintro e w' ⟨rfl, rfl⟩))
  all_goals go_ret
  all_goals refine ⟨ret_int ?_, ((Below.refl _ _).alloc (Nat.le_refl _) _).alloc (by simp) _⟩
  all_goals unfold cmpV
  all_goals simp_all

end Go.Proofs.YtihdlalbgdighaaDoor.Op
/- The order of rows: value.Rows and the reference's. -/
namespace Go.Proofs.YtihdlalbgdighaaDoor.Op
open Go.RowKit Go.Proofs.YtihdlalbgdighaaDoorW.PrintWords
set_option linter.unusedVariables false
set_option linter.unusedSimpArgs false

def rowsV : List V → List V → Int
  | [], [] => 0
  | [], _ :: _ => -1
  | _ :: _, [] => 1
  | x :: xs, y :: ys => if cmpV x y = 0 then rowsV xs ys else cmpV x y
theorem rowsV_hit : ∀ (a b : List V) (k : Nat), k < a.length → k < b.length → (∀ j, j < k → cmpV (a.getD j V.z) (b.getD j V.z) = 0) → cmpV (a.getD k V.z) (b.getD k V.z) ≠ 0 → rowsV a b = cmpV (a.getD k V.z) (b.getD k V.z)
  | [], _, k, h, _, _, _ => absurd h (by simp)
  | _ :: _, [], k, _, h, _, _ => absurd h (by simp)
  | x :: xs, y :: ys, 0, _, _, _, hn => by
    simp only [List.getD_cons_zero] at hn ⊢
    rw [rowsV, if_neg hn]
  | x :: xs, y :: ys, k + 1, ha, hb, h, hn => by
    have h0 := h 0 (by omega)
    simp only [List.getD_cons_zero] at h0
    simp only [List.getD_cons_succ] at hn ⊢
    rw [rowsV, if_pos h0]
    exact rowsV_hit xs ys k (by simpa using ha) (by simpa using hb) (fun j hj => by have := h (j + 1) (by omega); simpa only [List.getD_cons_succ] using this) hn
theorem rowsV_end : ∀ (a b : List V), (∀ j, j < a.length → j < b.length → cmpV (a.getD j V.z) (b.getD j V.z) = 0) → rowsV a b = cmpI a.length b.length
  | [], [], _ => rfl
  | [], _ :: _, _ => by rw [rowsV]; simp only [cmpI, List.length_nil, List.length_cons]; rw [if_pos (by omega)]
  | _ :: _, [], _ => by rw [rowsV]; simp only [cmpI, List.length_nil, List.length_cons]; rw [if_neg (by omega), if_pos (by omega)]
  | x :: xs, y :: ys, h => by
    have h0 := h 0 (by simp) (by simp)
    simp only [List.getD_cons_zero] at h0
    rw [rowsV, if_pos h0, rowsV_end xs ys (fun j h1 h2 => by have := h (j + 1) (by simpa using h1) (by simpa using h2); simpa only [List.getD_cons_succ] using this)]
    simp only [cmpI, List.length_cons]
    repeat' split
    all_goals omega

set_option maxHeartbeats 1000000 in
theorem rows_any (A : Option Addr) (a : List V) (ca : Nat) (B : Option Addr) (b : List V) (cb : Nat) (w : World) (ha : kV.C w A a.length a) (hca : a.length ≤ ca) (hb : kV.C w B b.length b) (hcb : b.length ≤ cb) :
    Calls Tryd.prog 59 #[.slice A a.length ca, .slice B b.length cb] w fun e w' => e = .returned (.int .i64 (rowsV a b)) ∧ Below w.heap.size w w' := by
  have hma := ha.2.1
  have hmb := hb.2.1
  have hmin : ∃ m : Nat, min (a.length : Int) (b.length : Int) = (m : Int) ∧ m ≤ a.length ∧ m ≤ b.length ∧ (m = a.length ∨ m = b.length) := ⟨min a.length b.length, by omega, by omega, by omega, by omega⟩
  go_enter Tryd.func59, Tryd.ntmps59
  go_wp2
  obtain ⟨m, hm, hma', hmb', hmor⟩ := hmin
  rw [hm]
  have HM := Lib.hid hm
  clear hm
  go_loopw [12] (fun i wr => ∃ k : Nat, i = .int .i64 k ∧ k ≤ m ∧ (∀ j, j < k → cmpV (a.getD j V.z) (b.getD j V.z) = 0) ∧ Below w.heap.size w wr) (fun i _ => m - (intOf i).toNat)
  case atStart => exact ⟨0, rfl, Nat.zero_le _, fun _ h => by omega, Below.refl _ _⟩
  case round =>
    obtain ⟨k, rfl, hk, hall, hB⟩ := hrel
    have HA := Lib.hid hall
    clear hall
    by_cases hltm : k < m
    case neg =>
      obtain rfl : k = m := by omega
      have HE := Lib.hid (rowsV_end a b (fun j h1 h2 => HA.out j (by omega)))
      go_wp2_with fail
      refine (cmpInt _ _ _).mono ?_
      rintro e w1 ⟨rfl, rfl⟩
      go_wp2
      go_ret
      exact ⟨ret_int HE.out, hB⟩
    have hlt : k < a.length := by omega
    have hlt2 : k < b.length := by omega
    obtain ⟨ad, rfl, hv⟩ := kV_at (Kd.C_below ha hB) k hlt
    obtain ⟨bd, rfl, hu⟩ := kV_at (Kd.C_below hb hB) k hlt2
    have hhit := Lib.hid (rowsV_hit a b k hlt hlt2 HA.out)
    have hstep : cmpV (a.getD k V.z) (b.getD k V.z) = 0 → ∀ j, j < k + 1 → cmpV (a.getD j V.z) (b.getD j V.z) = 0 := fun h j hj => by
      rcases Nat.lt_or_ge j k with hjk | hjk
      · exact HA.out j hjk
      · obtain rfl : j = k := by omega
        exact h
    have HS := Lib.hid hstep
    clear hstep HA
    generalize a.getD k V.z = x at hv hhit HS
    generalize b.getD k V.z = y at hu hhit HS
    have hcv := fun w => compareV x y w
    obtain ⟨k1, b1, i1, s1⟩ := x
    obtain ⟨k2, b2, i2, s2⟩ := y
    obtain ⟨hvl, hv0, hv1, hv2, hv3⟩ := hv
    obtain ⟨hul, hu0, hu1, hu2, hu3⟩ := hu
    simp only at hv0 hv1 hv2 hv3 hu0 hu1 hu2 hu3
    unfold V.val at hcv
    generalize cmpV ⟨k1, b1, i1, s1⟩ ⟨k2, b2, i2, s2⟩ = n at hcv hhit HS
    have HC := Lib.hid hcv
    clear hcv
    by_cases hn : n = 0
    · subst hn
      go_wp2_with fail
      first | go_region_with (first | (go_at_call 48; refine (HC.out _).mono ?_; rintro e w1 ⟨rfl, hb1⟩; have hz := (below_drew hB).trans (hb1.mono (below_drew hB).size))) | fail
      all_goals
        go_wp2
        go_roundw
        case rel => exact ⟨k + 1, by go_num, by omega, HS.out trivial, by assumption⟩
        case measure => simp [intOf]; omega
    · have hnb : (n != 0) = true := bne_iff_ne.2 hn
      go_wp2_with fail
      first | go_region_with (first | (go_at_call 48; refine (HC.out _).mono ?_; rintro e w1 ⟨rfl, hb1⟩; have hz := (below_drew hB).trans (hb1.mono (below_drew hB).size))) | fail
      all_goals
        go_wp2
        go_ret
        exact ⟨ret_int (hhit.out hn), by assumption⟩

end Go.Proofs.YtihdlalbgdighaaDoor.Op
/- What hayloftref02.SameRow tells, as printed. -/
namespace Go.Proofs.YtihdlalbgdighaaDoor.QV
open Go.RowKit Go.Proofs.YtihdlalbgdighaaDoorW.PrintWords Go.Proofs.YtihdlalbgdighaaDoor.Op
set_option linter.unusedVariables false
set_option linter.unusedSimpArgs false
abbrev S' := S61
abbrev z' : S' := z61
theorem ba_ext' {s t : ByteArray} (h : s.toList = t.toList) : s = t := by
  rw [Lib.toList_data, Lib.toList_data] at h
  cases s; cases t
  simpa using Array.toList_inj.1 h
def eqS (x y : S') : Bool := x.f0 == y.f0 && (x.f1 == y.f1 && (x.f2 == y.f2 && x.f3.toList == y.f3.toList))
theorem eqS_iff {x y : S'} : eqS x y = true ↔ x = y := by
  obtain ⟨a, b, c, d⟩ := x
  obtain ⟨a', b', c', d'⟩ := y
  unfold eqS
  constructor
  · intro h
    simp only [Bool.and_eq_true, beq_iff_eq] at h
    rw [h.1, h.2.1, h.2.2.1, ba_ext' h.2.2.2]
  · intro h
    cases h
    simp
def eqRow : List S' → List S' → Bool
  | [], [] => true
  | x :: xs, y :: ys => eqS x y && eqRow xs ys
  | _, _ => false
theorem eqRow_iff : ∀ {a b : List S'}, eqRow a b = true ↔ a = b
  | [], [] => by simp [eqRow]
  | [], _ :: _ => by simp [eqRow]
  | _ :: _, [] => by simp [eqRow]
  | x :: xs, y :: ys => by rw [eqRow, Bool.and_eq_true, eqS_iff, eqRow_iff]; simp
theorem eqRow_len {a b : List S'} (h : a.length ≠ b.length) : eqRow a b = false := by
  rw [← Bool.not_eq_true, eqRow_iff]
  rintro rfl
  exact h rfl
theorem drop_get {α : Type} (z : α) (a : List α) (i : Nat) (h : i < a.length) : a.drop i = a.getD i z :: a.drop (i + 1) := by
  rw [List.drop_eq_getElem_cons h, List.getD_eq_getElem?_getD, List.getElem?_eq_getElem h]; rfl
theorem same_loop (a b : List S') (hm : a.length ≤ 9223372036854775807) : ∀ (d i : Nat), i + d = a.length → a.length = b.length → Ev (fun k => hayloftref02_SameRow.l0 k a b (i : Int)) (eqRow (a.drop i) (b.drop i)) := by
  intro d
  induction d with
  | zero =>
    intro i hi hl
    rw [List.drop_of_length_le (by omega), List.drop_of_length_le (by omega)]
    refine Ev.step (f := fun _ => some true) (fun k => ?_) (Ev.now _)
    simp only [hayloftref02_SameRow.l0]
    rw [if_neg (by omega)]
  | succ d ih =>
    intro i hi hl
    have hw : wrap64 ((i : Int) + 1) = ((i + 1 : Nat) : Int) := by unfold wrap64; omega
    have hra : rd_T61 a (i : Int) = a.getD i z' := rfl
    have hrb : rd_T61 b (i : Int) = b.getD i z' := rfl
    have hih := ih (i + 1) (by omega) hl
    rw [drop_get z' a i (by omega), drop_get z' b i (by omega), eqRow]
    generalize a.getD i z' = x at hra
    generalize b.getD i z' = y at hrb
    have hne : (!(x.f0 == y.f0) || (!(x.f1 == y.f1) || (!(x.f2 == y.f2) || (!(x.f3.toList == y.f3.toList))))) = !eqS x y := by
      simp [eqS]
    cases he : eqS x y
    · rw [Bool.false_and]
      refine Ev.step (f := fun _ => some false) (fun k => ?_) (Ev.now _)
      simp only [hayloftref02_SameRow.l0, hra, hrb, hne, he]
      rw [if_pos (by omega), if_pos (by omega), if_pos (by omega), if_pos (by decide)]
    · rw [Bool.true_and]
      refine Ev.step (fun k => ?_) hih
      simp only [hayloftref02_SameRow.l0, hra, hrb, hne, he]
      rw [if_pos (by omega), if_pos (by omega), if_pos (by omega), if_neg (by decide), hw]
end Go.Proofs.YtihdlalbgdighaaDoor.QV
/- slices.Clone of a row of values: a row of one's own; nil stays nil. -/
namespace Go.Proofs.YtihdlalbgdighaaDoor.QV
open Go.RowKit Go.Proofs.YtihdlalbgdighaaDoorW.PrintWords
set_option linter.unusedVariables false
set_option maxRecDepth 100000
set_option linter.unusedSimpArgs false
abbrev kS : Kd S61 := k61
abbrev tS : Nat := 61
theorem infoS : (Tryd.prog.info? 61).map (fun i => (i.zero, i.size, i.bytes)) = some (some (.agg #[.int .i64 0, .bool false, .int .i64 0, .string ⟨#[]⟩]), 4, 40) := by kernel_rfl
theorem kS_KM {w W : World} {base : Nat} {ok : Nat → Prop} (x : S61) (cs : List Value) (h : kS.K w x cs) : kS.M W base ok x cs := by
  rw [k61_open h]; exact k61_mkM _ _ _ _
theorem R_empty' {α : Type} (d : Kd α) (e : Nat) (w : World) (base : Nat) (ok : Nat → Prop) (hb : base ≤ w.heap.size) (hok : ok w.heap.size) : d.R e (w.alloc (.cells #[] e)) base ok (.slice (some ⟨w.heap.size, 0, none⟩) 0 0) [] := by
  refine ⟨fun k hk => ?_, [], ?_, Reps.none _ _⟩
  · have : w.heap.size = k := by simpa [Value.ownBlock] using hk
    subst this
    exact hok
  · have h2 := World.ownsRow_lit (base := base) (e := e) (size := d.sz) w #[] 0 hb (by simp) (by simp)
    simpa using h2

set_option maxHeartbeats 1000000 in
theorem clone_any (A : Option Addr) (l : List S61) (c : Nat) (w : World) (hr : kS.C w A l.length l) (hc : l.length ≤ c) (hb : l.length * 40 ≤ 140737488355328) :
    Calls Tryd.prog 45 #[.slice A l.length c] w fun e w' => ∃ v, e = .returned v ∧ kS.R tS w' w.heap.size (fun _ => True) v l ∧ Below w.heap.size w w' := by
  have hmax := hr.2.1
  cases A with
  | none =>
    have hl : l = [] := by
      cases l with
      | nil => rfl
      | cons x l => obtain ⟨ad, e, _⟩ := hr.2.2 (by simp); cases e
    subst hl
    have hn := Lib.run_eql_slice_nil (P := Tryd.prog)
    go_enter Tryd.func45, Tryd.ntmps45
    go_wp2
    go_ret
    exact ⟨_, rfl, Kd.R_nil _ _ _ _ _, Below.refl _ _⟩
  | some ad =>
    have hn := Lib.run_eql_slice_nil (P := Tryd.prog)
    go_enter Tryd.func45, Tryd.ntmps45
    go_wp2_with (at_builtin; refine Kd.R_append_rows kS (w0 := w) w.heap.size rfl (.tmp 5) (.tmp 6) 62 61 _ 40 rfl Tryd.underlying62 infoS rfl (by decide) (by decide) (.slice (some ⟨w.heap.size, 0, none⟩) 0 0) [] l (some ad) l.length c (fun _ => True) (fun _ => False) rfl rfl (R_empty' kS _ _ _ _ (Nat.le_refl _) trivial) (Kd.C_below hr (below_alloc (Below.refl _ _) _)) (fun x cs h => kS_KM x cs h) (fun _ h => h.elim) (fun _ _ => trivial) (below_alloc (Below.refl _ _) _) (by simp) (by simp; omega) ?_; intro v1 w4 hv1 hB7 hg7 hat7; clear hg7 hat7)
    go_ret
    exact ⟨v1, rfl, by simpa using hv1, hB7⟩
end Go.Proofs.YtihdlalbgdighaaDoor.QV
/- slices.Grow of nil, slices.Concat of two rows: a row of one's own. -/
namespace Go.Proofs.YtihdlalbgdighaaDoor.QV
open Go.RowKit Go.Proofs.YtihdlalbgdighaaDoorW.PrintWords
set_option linter.unusedVariables false
set_option linter.unusedSimpArgs false

set_option maxHeartbeats 1000000 in
theorem grow_nil (n : Nat) (w : World) (hb : n * 40 ≤ 140737488355328) :
    Calls Tryd.prog 81 #[.slice none 0 0, .int .i64 n] w fun e w' => ∃ v, e = .returned v ∧ kS.R tS w' w.heap.size (fun _ => True) v [] ∧ Below w.heap.size w w' := by
  by_cases h0 : n = 0
  · subst h0
    go_enter Tryd.func81, Tryd.ntmps81
    go_wp2
    go_ret
    exact ⟨_, rfl, Kd.R_nil _ _ _ _ _, Below.refl _ _⟩
  · have hp : 0 < n := by omega
    go_enter Tryd.func81, Tryd.ntmps81
    go_wp2_with (at_builtin; refine Kd.R_append_zeros kS (w0 := w) w.heap.size rfl (.tmp 20) (.tmp 21) 62 3 61 _ 40 rfl Tryd.underlying62 Tryd.underlying3 infoS rfl (by decide) (by decide) (.slice none 0 0) [] z61 (n : Int) (fun _ => True) rfl rfl (k61_mkM _ _ _ z61) (fun _ _ => trivial) (Kd.R_nil _ _ _ _ _) (by omega) (Below.refl _ _) (Nat.le_refl _) (by simp; omega) ?_; intro v1 w1 hv1 hb1 hg1 hat1; obtain ⟨g1, cap1, rfl, hg1b, hg1l, cells1, hcells1⟩ := Kd.R_form hv1 (by simp; omega); clear hg1 hat1)
    go_ret
    exact ⟨_, rfl, by simpa using Kd.R_take hv1 (Nat.zero_le _), hb1⟩

set_option maxHeartbeats 2000000 in
/-- The two rows, one behind the other. -/
theorem concat2 (A : Option Addr) (a : List S61) (ca : Nat) (B : Option Addr) (b : List S61) (cb : Nat) (g : Nat) (w : World) (hg : w.heap[g]? = some (.cells #[.slice A a.length ca, .slice B b.length cb] 62 (0, 0)))
    (hA : kS.C w A a.length a) (hB : kS.C w B b.length b) (hb : (a.length + b.length) * 40 ≤ 140737488355328) :
    Calls Tryd.prog 49 #[.slice (some ⟨g, 0, none⟩) 2 2] w fun e w' => ∃ v, e = .returned v ∧ kS.R tS w' w.heap.size (fun _ => True) v (a ++ b) ∧ Below w.heap.size w w' := by
  have c0 : w.cell? ⟨g, 0, none⟩ = some (.slice A a.length ca) := blk_cell hg 0
  have c1 : w.cell? ⟨g, 1, none⟩ = some (.slice B b.length cb) := blk_cell hg 1
  have hab : (a.length : Int) + (b.length : Int) = ((a.length + b.length : Nat) : Int) := by omega
  go_enter Tryd.func49, Tryd.ntmps49
  go_wp2_with fail
  have HAB := Lib.hid hab
  clear hab
  go_loop [3, 11] (fun s i => ∃ k : Nat, k ≤ 2 ∧ i = .int .i64 k ∧ s = .int .i64 (if k = 0 then 0 else if k = 1 then (a.length : Int) else ((a.length + b.length : Nat) : Int))) (fun _ i => 2 - (intOf i).toNat)
  case atStart => exact ⟨0, by omega, rfl, rfl⟩
  case round =>
    obtain ⟨k, hk, rfl, rfl⟩ := hrel
    rcases (by omega : k = 0 ∨ k = 1 ∨ k = 2) with rfl | rfl | rfl
    · go_wp2
      go_round
      case rel => exact ⟨1, by omega, by go_num, by simp⟩
      case measure => simp [intOf]
    · go_wp2
      go_round
      case rel => exact ⟨2, by omega, by go_num, by simp⟩
      case measure => simp [intOf]
    · simp only [show ¬ (2 = 0) from by omega, show ¬ (2 = 1) from by omega, if_false]
      go_wp2_with fail
      refine (grow_nil (a.length + b.length) w hb).mono ?_
      rintro e w1 ⟨v0, rfl, hv0, hb0⟩
      have c0 : w1.cell? ⟨g, 0, none⟩ = some (.slice A a.length ca) := blk_cell (blk_below hg hb0) 0
      have c1 : w1.cell? ⟨g, 1, none⟩ = some (.slice B b.length cb) := blk_cell (blk_below hg hb0) 1
      go_wp2_with fail
      go_loopw [6, 27] (fun v i wr => ∃ k : Nat, k ≤ 2 ∧ i = .int .i64 k ∧ kS.R tS wr w.heap.size (fun _ => True) v (if k = 0 then [] else if k = 1 then a else a ++ b) ∧ Below w.heap.size w wr) (fun _ i _ => 2 - (intOf i).toNat)
      case atStart => exact ⟨0, by omega, rfl, by simpa using hv0, hb0⟩
      case round =>
        obtain ⟨k, hk, rfl, hv, hB2⟩ := hrel
        have d0 : wr.cell? ⟨g, 0, none⟩ = some (.slice A a.length ca) := blk_cell (blk_below hg hB2) 0
        have d1 : wr.cell? ⟨g, 1, none⟩ = some (.slice B b.length cb) := blk_cell (blk_below hg hB2) 1
        rcases (by omega : k = 0 ∨ k = 1 ∨ k = 2) with rfl | rfl | rfl
        · simp only [if_true] at hv
          go_wp2_with (at_builtin; refine Kd.R_append_rows kS (w0 := w) w.heap.size rfl (.tmp 31) (.tmp 32) 62 61 _ 40 rfl Tryd.underlying62 infoS rfl (by decide) (by decide) u6 [] a A a.length ca (fun _ => True) (fun _ => False) rfl rfl hv (Kd.C_below hA hB2) (fun x cs h => kS_KM x cs h) (fun _ h => h.elim) (fun _ _ => trivial) hB2 hB2.size (by first | omega | (simp; omega)) ?_; intro v1 w4 hv1 hB7 hg7 hat7; clear hg7 hat7)
          go_roundw
          case rel => exact ⟨1, by omega, by go_num, by simpa using hv1, hB7⟩
          case measure => simp [intOf]
        · simp only [show ¬ (1 = 0) from by omega, if_false, if_true] at hv
          go_wp2_with (at_builtin; refine Kd.R_append_rows kS (w0 := w) w.heap.size rfl (.tmp 31) (.tmp 32) 62 61 _ 40 rfl Tryd.underlying62 infoS rfl (by decide) (by decide) u6 a b B b.length cb (fun _ => True) (fun _ => False) rfl rfl hv (Kd.C_below hB hB2) (fun x cs h => kS_KM x cs h) (fun _ h => h.elim) (fun _ _ => trivial) hB2 hB2.size (by first | omega | (simp; omega)) ?_; intro v1 w4 hv1 hB7 hg7 hat7; clear hg7 hat7)
          go_roundw
          case rel => exact ⟨2, by omega, by go_num, by simpa using hv1, hB7⟩
          case measure => simp [intOf]
        · simp only [show ¬ (2 = 0) from by omega, show ¬ (2 = 1) from by omega, if_false] at hv
          go_wp2
          go_ret
          exact ⟨_, rfl, hv, hB2⟩
end Go.Proofs.YtihdlalbgdighaaDoor.QV
/- A range over a function, by separation: what an iterator gives (SeqOf), and the law of the statement that ranges over it. M: the blocks that are the consumer's; N: those of what is handed out, if they are new. -/
namespace Go.Proofs.YtihdlalbgdighaaDoor.Seq
open Go Go.RowKit
set_option linter.unusedVariables false

/-- B is A but for the blocks of M, and new ones. -/
structure Kpt (M : Nat → Prop) (A B : World) : Prop where
  os : B.os = A.os
  tape : B.tape = A.tape
  output : B.output = A.output
  size : A.heap.size ≤ B.heap.size
  block : ∀ i, i < A.heap.size → ¬ M i → B.heap[i]? = A.heap[i]?
theorem Kpt.refl (M : Nat → Prop) (A : World) : Kpt M A A := ⟨rfl, rfl, rfl, Nat.le_refl _, fun _ _ _ => rfl⟩
theorem Kpt.mono {M M' : Nat → Prop} {A B : World} (h : Kpt M A B) (hm : ∀ i, i < A.heap.size → M i → M' i) : Kpt M' A B := ⟨h.os, h.tape, h.output, h.size, fun i hi hn => h.block i hi (fun k => hn (hm i hi k))⟩
theorem Kpt.trans {M M1 M2 : Nat → Prop} {A B C : World} (h : Kpt M1 A B) (k : Kpt M2 B C) (hm : ∀ i, i < A.heap.size → M1 i ∨ M2 i → M i) : Kpt M A C :=
  ⟨k.os.trans h.os, k.tape.trans h.tape, k.output.trans h.output, Nat.le_trans h.size k.size, fun i hi hn => (k.block i (Nat.lt_of_lt_of_le hi h.size) (fun z => hn (hm i hi (.inr z)))).trans (h.block i hi (fun z => hn (hm i hi (.inl z))))⟩
theorem Kpt.of_below {b : Nat} {A B : World} (h : Below b A B) : Kpt (fun i => b ≤ i) A B := ⟨h.os, h.tape, h.output, h.size, fun i _ hn => h.block i (by omega)⟩
theorem Kpt.of_new {A B : World} (M : Nat → Prop) (h : Below A.heap.size A B) : Kpt M A B := ⟨h.os, h.tape, h.output, h.size, fun i hi _ => h.block i hi⟩
theorem Kpt.below {M : Nat → Prop} {b : Nat} {A B : World} (h : Kpt M A B) (hb : b ≤ A.heap.size) (hm : ∀ i, i < A.heap.size → M i → b ≤ i) : Below b A B := ⟨h.os, h.tape, h.output, h.size, fun i hi => h.block i (by omega) (fun k => by have := hm i (by omega) k; omega)⟩
theorem Kpt.alloc (M : Nat → Prop) (A : World) (o : Obj) : Kpt M A (A.alloc o) := .of_new M ((Below.refl _ A).alloc (Nat.le_refl _) o)
theorem Kpt.drew (M : Nat → Prop) (A : World) : Kpt M A A.drew := ⟨rfl, rfl, rfl, Nat.le_refl _, fun _ _ _ => rfl⟩
theorem Kpt.grown {A B : World} {row : Option Nat} (h : A.grownBy B row) : Kpt (fun i => some i = row) A B := ⟨h.os, h.tape, h.output, h.size, fun i hi hn => h.block i hi hn⟩
theorem Kpt.putObj (A : World) (l : Nat) (o : Obj) : Kpt (fun i => i = l) A (A.putObj l o) := (Kpt.grown (grownBy_putObj' A l o)).mono (fun i _ h => by simpa using h)
theorem Kpt.setCell (A : World) (p : Addr) (v : Value) : Kpt (fun i => i = p.block) A (A.setCell p v) := ⟨rfl, rfl, rfl, by simp, fun i _ hn => Below.heap_setCell _ _ _ i (fun e => hn e)⟩
theorem Kpt.at {M : Nat → Prop} {A B : World} (h : Kpt M A B) {i : Nat} {o : Obj} (hi : A.heap[i]? = some o) (hn : ¬ M i) : B.heap[i]? = some o := (h.block i (Array.getElem?_eq_some_iff.1 hi).1 hn).trans hi

/-- WHAT AN ITERATOR GIVES: whatever the consumer keeps in its own blocks (J, between two rounds; Jx, once it has said 'no more'), if each round takes an element on, the whole list has come, or a beginning of it, at whose last element the consumer has said 'no more'; the iterator has written only what it made itself. -/
def SeqOf {α : Type} (P : Program) (g : Nat) (lb : Array Value) (Rd : World → (Nat → Prop) → α → Array Value → Prop) (xs : List α) (w : World) : Prop :=
  ∀ (l : Nat) (J Jx : List α → (Nat → Prop) → World → Prop) (W : World) (M : Nat → Prop),
    Below w.heap.size w W → (∀ i, M i → w.heap.size ≤ i ∧ i < W.heap.size) →
    (∀ pre M A B, J pre M A → Kpt (fun i => W.heap.size ≤ i ∧ ¬ M i) A B → J pre M B) →
    (∀ pre M A B, Jx pre M A → Kpt (fun i => W.heap.size ≤ i ∧ ¬ M i) A B → Jx pre M B) →
    (∀ pre x vs N A M, J pre M A → (pre ++ [x]) <+: xs → Rd A N x vs → (∀ i, M i → w.heap.size ≤ i ∧ i < A.heap.size) → (∀ i, N i → W.heap.size ≤ i ∧ i < A.heap.size ∧ ¬ M i) → W.heap.size ≤ A.heap.size →
      YieldAt Fence.wide 0 P l vs A fun e B => ∃ M', (∀ i, M' i → (M i ∨ N i ∨ A.heap.size ≤ i) ∧ i < B.heap.size) ∧ Kpt (fun i => M i ∨ N i) A B ∧
        ((e = .returned (.bool true) ∧ J (pre ++ [x]) M' B) ∨ (e = .returned (.bool false) ∧ Jx (pre ++ [x]) M' B))) →
    J [] M W →
    Calls P g (#[.func (.yield l) #[] #[]] ++ lb) W fun e W' => (∃ v, e = .returned v) ∧ ∃ M', (∀ i, M' i → (M i ∨ W.heap.size ≤ i) ∧ i < W'.heap.size) ∧ Kpt M W W' ∧ (J xs M' W' ∨ ∃ pre, pre <+: xs ∧ Jx pre M' W')

theorem SeqOf.later {α : Type} {P : Program} {g : Nat} {lb : Array Value} {Rd : World → (Nat → Prop) → α → Array Value → Prop} {xs : List α} {w w' : World} (h : SeqOf P g lb Rd xs w) (hb : Below w.heap.size w w') : SeqOf P g lb Rd xs w' := by
  intro l J Jx W M hW hM hJ hJx hY h0
  refine (h l (fun pre M A => J pre M A ∧ ∀ i, M i → w'.heap.size ≤ i) Jx W M (hb.trans (hW.mono hb.size)) (fun i hi => ⟨Nat.le_trans hb.size (hM i hi).1, (hM i hi).2⟩)
    (fun pre M A B hj hk => ⟨hJ _ _ _ _ hj.1 hk, hj.2⟩) hJx ?_ ⟨h0, fun i hi => (hM i hi).1⟩).mono ?_
  · rintro pre x vs N A M ⟨hj, hm⟩ hpre hRd hMA hN hWA
    have hs : w'.heap.size ≤ W.heap.size := hW.size
    refine (hY pre x vs N A M hj hpre hRd (fun i hi => ⟨hm i hi, (hMA i hi).2⟩) hN hWA).mono ?_
    rintro e B ⟨M', h1, h2, h3⟩
    refine ⟨M', h1, h2, ?_⟩
    rcases h3 with ⟨he, h3⟩ | h3
    · refine .inl ⟨he, h3, fun i hi => ?_⟩
      rcases (h1 i hi).1 with k | k | k
      · exact hm i k
      · have := (hN i k).1; omega
      · omega
    · exact .inr h3
  · rintro e W' ⟨he, M', h1, h2, h3⟩
    refine ⟨he, M', h1, h2, ?_⟩
    rcases h3 with ⟨h3, _⟩ | h3
    · exact .inl h3
    · exact .inr h3

/-- How a round's body may be left. -/
def PostS {α : Type} (M N : Nat → Prop) (I : List α → (Nat → Prop) → World → Prop) (Ix : Code → List α → (Nat → Prop) → World → Prop) (xs : List α) (A : World) : Exit → Act → World → Prop
  | .normal, _, B => ∃ M', (∀ i, M' i → (M i ∨ N i ∨ A.heap.size ≤ i) ∧ i < B.heap.size) ∧ Kpt (fun i => M i ∨ N i) A B ∧ I xs M' B
  | .ret, _, B => ∃ M', (∀ i, M' i → (M i ∨ N i ∨ A.heap.size ≤ i) ∧ i < B.heap.size) ∧ Kpt (fun i => M i ∨ N i) A B ∧ Ix .ret xs M' B
  | .exit id, _, B => ∃ M', (∀ i, M' i → (M i ∨ N i ∨ A.heap.size ≤ i) ∧ i < B.heap.size) ∧ Kpt (fun i => M i ∨ N i) A B ∧ Ix (.exit id) xs M' B
  | .goto t, _, B => ∃ M', (∀ i, M' i → (M i ∨ N i ∨ A.heap.size ≤ i) ∧ i < B.heap.size) ∧ Kpt (fun i => M i ∨ N i) A B ∧ Ix (.goto t) xs M' B
  | .panic _, _, _ => False
  | .outgrown, _, _ => False

theorem wpIn_range {α : Type} {P : Program} {n : Nat} {g : Operand} {ps : Array Tmp} {assign body : Code} {Q : Exit → Act → World → Prop} {a : Act} {w : World}
    {gf : Nat} {lb : Array Value} (hg : a.eval g = .func (.func gf) #[] lb) (eg : ∀ args w, (callFunc gf args).run P w = .ok (.enter gf args) w)
    {Rd : World → (Nat → Prop) → α → Array Value → Prop} {xs : List α} {w0 : World} (hseq : SeqOf P gf lb Rd xs w0) (hb0 : Below w0.heap.size w0 w)
    (hps : ∀ A N x vs, Rd A N x vs → vs.size = ps.size)
    (hRd : ∀ A B N x vs, Rd A N x vs → Kpt (fun i => w0.heap.size ≤ i ∧ ¬ N i) A B → Rd B N x vs)
    (I : List α → (Nat → Prop) → World → Prop) (Ix : Code → List α → (Nat → Prop) → World → Prop)
    (hI : ∀ pre M A B, I pre M A → Kpt (fun i => w.heap.size ≤ i ∧ ¬ M i) A B → I pre M B)
    (hIx : ∀ c pre M A B, Ix c pre M A → Kpt (fun i => w.heap.size ≤ i ∧ ¬ M i) A B → Ix c pre M B)
    (M : Nat → Prop) (hM : ∀ i, M i → w0.heap.size ≤ i ∧ i < w.heap.size) (h0 : I [] M w)
    (Ax : α → Array Value → Act → (Nat → Prop) → World → Prop) (hAx : ∀ x vs a₁ M A B, Ax x vs a₁ M A → Kpt (fun i => w.heap.size ≤ i ∧ ¬ M i) A B → Ax x vs a₁ M B)
    (hassign : ∀ l pre x vs N A M, I pre M A → (pre ++ [x]) <+: xs → Rd A N x vs → (∀ i, M i → w0.heap.size ≤ i ∧ i < A.heap.size) → (∀ i, N i → w.heap.size ≤ i ∧ i < A.heap.size ∧ ¬ M i) →
      assign.wpIn (Fence.wide.inRound l) 0 P (Exit.then (fun a₁ B => ∃ M', (∀ i, M' i → (M i ∨ A.heap.size ≤ i) ∧ i < B.heap.size) ∧ Kpt M A B ∧ I pre M' B ∧ Ax x vs a₁ M' B) (fun _ _ _ => False))
        { tmps := (ps.zip vs).foldl (fun t (p, v) => t.setIfInBounds p v) a.tmps, defers := [] } A)
    (hbody : ∀ l pre x vs N A M a₁, I pre M A → (pre ++ [x]) <+: xs → Rd A N x vs → Ax x vs a₁ M A → (∀ i, M i → w0.heap.size ≤ i ∧ i < A.heap.size) → (∀ i, N i → w.heap.size ≤ i ∧ i < A.heap.size ∧ ¬ M i) →
      body.wpIn (Fence.wide.inRound l) 0 P (PostS M N I Ix (pre ++ [x]) A) a₁ A)
    (hdone : ∀ D W M', I xs M' W → Kpt M w W → (∀ i, M' i → (M i ∨ w.heap.size ≤ i) ∧ i < W.heap.size) → W.heap[D]? = some (.deferred (some [])) → w.heap.size ≤ D → ¬ M' D →
      Q .normal { a with defers := { target := .collected D, args := #[] } :: a.defers } W)
    (hstop : ∀ D c pre W M', pre <+: xs → Ix c pre M' W → Kpt M w W → (∀ i, M' i → (M i ∨ w.heap.size ≤ i) ∧ i < W.heap.size) → W.heap[D]? = some (.deferred (some [])) → w.heap.size ≤ D → ¬ M' D →
      c.wpIn Fence.wide n P Q { a with defers := { target := .collected D, args := #[] } :: a.defers } W) :
    (Code.rangeFunc g ps assign body).wpIn Fence.wide n P Q a w := by
  refine wpIn_rangeFunc ?_
  intro fn hfn
  obtain ⟨rec, hrec⟩ : ∃ rec : LoopState → Option Code → Loop, rec = fun st pe => { state := st, pending := pe, fn, tmps := a.tmps, params := ps, assign, body, defers := w.heap.size } := ⟨_, rfl⟩
  obtain ⟨W1, hW1⟩ : ∃ W1, (w.alloc (.deferred (some []))).alloc (.loop (rec .ready none)) = W1 := ⟨_, rfl⟩
  have hL1 : W1.heap[w.heap.size + 1]? = some (.loop (rec .ready none)) := by
    rw [← hW1]; have := World.alloc_heap_new (w.alloc (.deferred (some []))) (.loop (rec .ready none)); rwa [World.size_alloc] at this
  have hK1 : W1.heap[w.heap.size]? = some (.deferred (some [])) := by
    rw [← hW1]; exact (Below.heap_alloc _ _ _ (by simp)).trans (World.alloc_heap_new w _)
  have hB1 : Below w.heap.size w W1 := by rw [← hW1]; exact ((Below.refl _ w).alloc (Nat.le_refl _) _).alloc (by simp) _
  have hs1 : W1.heap.size = w.heap.size + 2 := by rw [← hW1]; simp
  have hI1 : I [] M W1 := hI _ _ _ _ h0 (.of_new _ hB1)
  have hb1 : Below w0.heap.size w0 W1 := hb0.trans (hB1.mono hb0.size)
  have hw0 : w0.heap.size ≤ w.heap.size := hb0.size
  refine ⟨w.heap.size + 1, [{ target := .collected w.heap.size, args := #[] }], W1, { target := .fn (.func gf) lb, args := #[.func (.yield (w.heap.size + 1)) #[] #[]] }, W1, gf,
    #[.func (.yield (w.heap.size + 1)) #[] #[]] ++ lb, W1, ?_, ?_, ?_, ?_, (fun h => by cases h), ?_⟩
  · rw [← hW1, hrec]; exact run_enterLoop_outer _ _ _ _ _
  · simp only [resolve, hg]
    simp [go_sem]
  · intro f' hf'; trivial
  · simp [invoke, go_sem, eg]
  · obtain ⟨J, hJd⟩ : ∃ J : (LoopState → Option Code → Prop) → ((List α) → (Nat → Prop) → World → Option Code → Prop) → List α → (Nat → Prop) → World → Prop,
        J = fun S X pre Mh A => ∃ M st pe, S st pe ∧ (∀ i, Mh i ↔ (M i ∨ i = w.heap.size + 1 ∨ i = w.heap.size)) ∧ (∀ i, M i → i ≠ w.heap.size + 1 ∧ i ≠ w.heap.size) ∧ X pre M A pe ∧
          A.heap[w.heap.size + 1]? = some (.loop (rec st pe)) ∧ A.heap[w.heap.size]? = some (.deferred (some [])) := ⟨_, rfl⟩
    have hJst : ∀ S X pre Mh A B, (∀ pre M A B pe, X pre M A pe → Kpt (fun i => w.heap.size ≤ i ∧ ¬ M i) A B → X pre M B pe) → J S X pre Mh A → Kpt (fun i => W1.heap.size ≤ i ∧ ¬ Mh i) A B → J S X pre Mh B := by
      intro S X pre Mh A B hX hj hk
      rw [hJd] at hj ⊢
      obtain ⟨M, st, pe, hS, hM1, hM2, hx, hl, hd⟩ := hj
      exact ⟨M, st, pe, hS, hM1, hM2, hX _ _ _ _ _ hx (hk.mono (fun i _ h => ⟨by omega, fun k => h.2 ((hM1 i).2 (.inl k))⟩)), hk.at hl (fun h => h.2 ((hM1 _).2 (.inr (.inl rfl)))), hk.at hd (fun h => h.2 ((hM1 _).2 (.inr (.inr rfl))))⟩
    refine ((callsIn_wide (n := n - 1)).2 (hseq (w.heap.size + 1) (J (fun st pe => st = .ready ∧ pe = none) (fun pre M A _ => I pre M A)) (J (fun st pe => st = .done ∧ pe.isSome = true) (fun pre M A pe => ∃ c, pe = some c ∧ Ix c pre M A)) W1 (fun i => M i ∨ i = w.heap.size + 1 ∨ i = w.heap.size) hb1 ?_ ?_ ?_ ?_ ?_)).mono ?_
    · intro i hi
      rcases hi with h | h | h
      · have := hM i h; omega
      · omega
      · omega
    · intro pre Mh A B hj hk
      exact hJst _ _ _ _ _ _ (fun pre M A B pe h k => hI _ _ _ _ h k) hj hk
    · intro pre Mh A B hj hk
      exact hJst _ _ _ _ _ _ (fun pre M A B pe h k => by obtain ⟨c, e, h⟩ := h; exact ⟨c, e, hIx _ _ _ _ _ h k⟩) hj hk
    · -- ONE ROUND
      intro pre x vs N A Mh hj hpre hrd hMh hN hWA
      rw [hJd] at hj
      obtain ⟨M2, st, pe, ⟨rfl, rfl⟩, hM1, hM2, hi, hl, hd⟩ := hj
      have hMA : ∀ i, M2 i → w0.heap.size ≤ i ∧ i < A.heap.size := fun i h => hMh i ((hM1 i).2 (.inl h))
      have hNA : ∀ i, N i → w.heap.size ≤ i ∧ i < A.heap.size ∧ ¬ M2 i := fun i h => by
        obtain ⟨h1, h2, h3⟩ := hN i h
        exact ⟨by omega, h2, fun k => h3 ((hM1 i).2 (.inl k))⟩
      have hNl : ∀ i, N i → i ≠ w.heap.size + 1 ∧ i ≠ w.heap.size := fun i h => ⟨fun e => (hN i h).2.2 ((hM1 i).2 (.inr (.inl e))), fun e => (hN i h).2.2 ((hM1 i).2 (.inr (.inr e)))⟩
      have hlA : w.heap.size + 1 < A.heap.size := (Array.getElem?_eq_some_iff.1 hl).1
      have hy := run_yield (P := P) (args := vs) hl (by rw [hrec]; exact hps _ _ _ _ hrd)
      rw [hrec] at hy
      refine ⟨fn, _, assign, body, hy, roundIn_of_wpIn hfn (wpIn_mono (hassign _ pre x vs N A M2 hi hpre hrd hMA hNA) ?_)⟩
      rintro e a₁ B hp
      cases e with
      | exit id => exact hp.elim
      | goto t => exact hp.elim
      | ret => exact hp.elim
      | panic c => exact hp.elim
      | outgrown => exact hp.elim
      | normal =>
        obtain ⟨M3, h31, h32, hi3, hax⟩ := hp
        have hl3 : B.heap[w.heap.size + 1]? = some (.loop (rec .ready none)) := h32.at hl (fun h => (hM2 _ h).1 rfl)
        have hd3 : B.heap[w.heap.size]? = some (.deferred (some [])) := h32.at hd (fun h => (hM2 _ h).2 rfl)
        have hM3 : ∀ i, M3 i → i ≠ w.heap.size + 1 ∧ i ≠ w.heap.size := fun i h => by
          rcases (h31 i h).1 with k | k
          · exact hM2 i k
          · omega
        have hNM3 : ∀ i, N i → ¬ M3 i := fun i h k => by
          rcases (h31 i k).1 with z | z
          · exact (hNA i h).2.2 z
          · have := (hNA i h).2.1; omega
        refine ⟨_, run_beginRound hl3 (by rw [hrec]), ?_⟩
        obtain ⟨B2, hB2⟩ : ∃ B2, B.putObj (w.heap.size + 1) (.loop { rec .ready none with state := .busy }) = B2 := ⟨_, rfl⟩
        rw [hB2]
        have hk2 : Kpt (fun i => i = w.heap.size + 1) B B2 := by rw [← hB2]; exact .putObj _ _ _
        have hl2 : B2.heap[w.heap.size + 1]? = some (.loop { rec .ready none with state := .busy }) := by rw [← hB2]; exact World.putObj_heap_same (Array.getElem?_eq_some_iff.1 hl3).1
        have hd2 : B2.heap[w.heap.size]? = some (.deferred (some [])) := hk2.at hd3 (by omega)
        have hsz2 : B2.heap.size = B.heap.size := by rw [← hB2]; simp [World.putObj]
        have hk2M : Kpt (fun i => w.heap.size ≤ i ∧ ¬ M3 i) B B2 := hk2.mono (fun i _ e => ⟨by omega, fun k => (hM3 i k).1 e⟩)
        have hrd2 : Rd B2 N x vs := hRd _ _ _ _ _ hrd (h32.trans hk2 (fun i hi h => by
          rcases h with h | h
          · exact ⟨(hMA i h).1, fun k => (hNA i k).2.2 h⟩
          · exact ⟨by omega, fun k => (hNl i k).1 h⟩))
        have hsAB := h32.size
        refine wpIn_mono (hbody _ pre x vs N B2 M3 a₁ (hI _ _ _ _ hi3 hk2M) hpre hrd2 (hAx _ _ _ _ _ _ hax hk2M) ?_ ?_) ?_
        · intro i h
          have h1 := (h31 i h).2
          rcases (h31 i h).1 with k | k
          · have := hMA i k; omega
          · omega
        · intro i h
          have := hNA i h
          exact ⟨this.1, by omega, hNM3 i h⟩
        have fin : ∀ (jump : Option Code) (B3 : World) (M4 : Nat → Prop), Kpt (fun i => M3 i ∨ N i) B2 B3 → (∀ i, M4 i → (M3 i ∨ N i ∨ B2.heap.size ≤ i) ∧ i < B3.heap.size) →
            (Instr.endRound (w.heap.size + 1) jump).run P B3 = .ok (.bool jump.isNone) (B3.putObj (w.heap.size + 1) (.loop (rec (if jump.isNone then .ready else .done) jump))) ∧
            (B3.putObj (w.heap.size + 1) (.loop (rec (if jump.isNone then .ready else .done) jump))).heap[w.heap.size + 1]? = some (.loop (rec (if jump.isNone then .ready else .done) jump)) ∧
            (B3.putObj (w.heap.size + 1) (.loop (rec (if jump.isNone then .ready else .done) jump))).heap[w.heap.size]? = some (.deferred (some [])) ∧
            Kpt (fun i => Mh i ∨ N i) A (B3.putObj (w.heap.size + 1) (.loop (rec (if jump.isNone then .ready else .done) jump))) ∧
            (∀ i, (M4 i ∨ i = w.heap.size + 1 ∨ i = w.heap.size) → (Mh i ∨ N i ∨ A.heap.size ≤ i) ∧ i < (B3.putObj (w.heap.size + 1) (.loop (rec (if jump.isNone then .ready else .done) jump))).heap.size) ∧
            (∀ i, M4 i → i ≠ w.heap.size + 1 ∧ i ≠ w.heap.size) ∧
            Kpt (fun i => w.heap.size ≤ i ∧ ¬ M4 i) B3 (B3.putObj (w.heap.size + 1) (.loop (rec (if jump.isNone then .ready else .done) jump))) := by
          intro jump B3 M4 hk3 h4
          have hl4 : B3.heap[w.heap.size + 1]? = some (.loop { rec .ready none with state := .busy }) := hk3.at hl2 (fun h => by rcases h with h | h; exact (hM3 _ h).1 rfl; exact (hNl _ h).1 rfl)
          have hd4 : B3.heap[w.heap.size]? = some (.deferred (some [])) := hk3.at hd2 (fun h => by rcases h with h | h; exact (hM3 _ h).2 rfl; exact (hNl _ h).2 rfl)
          have hr := run_endRound (P := P) jump hl4
          have hlt := (Array.getElem?_eq_some_iff.1 hl4).1
          have hsz3 := hk3.size
          have hM4 : ∀ i, M4 i → i ≠ w.heap.size + 1 ∧ i ≠ w.heap.size := fun i h => by
            rcases (h4 i h).1 with k | k | k
            · exact hM3 i k
            · exact hNl i k
            · omega
          have hpo : Kpt (fun i => i = w.heap.size + 1) B3 (B3.putObj (w.heap.size + 1) (.loop (rec (if jump.isNone then .ready else .done) jump))) := .putObj _ _ _
          refine ⟨by rw [hrec] at hr ⊢; exact hr, World.putObj_heap_same hlt, (World.putObj_heap_other (by omega)).trans hd4, ?_, ?_, hM4, hpo.mono (fun i _ e => ⟨by omega, fun k => (hM4 i k).1 e⟩)⟩
          · refine Kpt.trans (M1 := fun i => Mh i ∨ N i) ?_ (hpo.mono (M' := fun i => i = w.heap.size + 1) (fun i _ e => e)) (fun i hi h => by
              rcases h with h | h
              · exact h
              · exact .inl ((hM1 i).2 (.inr (.inl h))))
            refine Kpt.trans (M1 := fun i => Mh i ∨ N i) ?_ hk3 (fun i hi h => by
              rcases h with h | h | h
              · exact h
              · rcases (h31 i h).1 with k | k
                · exact .inl ((hM1 i).2 (.inl k))
                · omega
              · exact .inr h)
            exact h32.trans hk2 (fun i hi h => by
              rcases h with h | h
              · exact .inl ((hM1 i).2 (.inl h))
              · exact .inl ((hM1 i).2 (.inr (.inl h))))
          · intro i h
            have hps : (B3.putObj (w.heap.size + 1) (.loop (rec (if jump.isNone then .ready else .done) jump))).heap.size = B3.heap.size := by simp [World.putObj]
            rw [hps]
            rcases h with h | h | h
            · refine ⟨?_, (h4 i h).2⟩
              rcases (h4 i h).1 with k | k | k
              · rcases (h31 i k).1 with z | z
                · exact .inl ((hM1 i).2 (.inl z))
                · exact .inr (.inr z)
              · exact .inr (.inl k)
              · exact .inr (.inr (by omega))
            · exact ⟨.inl ((hM1 i).2 (.inr (.inl h))), by omega⟩
            · exact ⟨.inl ((hM1 i).2 (.inr (.inr h))), by omega⟩
        rintro e a3 B3 hp
        cases e with
        | normal =>
          obtain ⟨M4, h41, h42, hi4⟩ := hp
          obtain ⟨f1, f2, f3, f4, f5, f6, f7⟩ := fin none B3 M4 h42 h41
          refine ⟨_, _, f1, _, f5, f4, .inl ⟨rfl, ?_⟩⟩
          rw [hJd]
          exact ⟨M4, _, _, ⟨rfl, rfl⟩, fun _ => Iff.rfl, f6, hI _ _ _ _ hi4 f7, f2, f3⟩
        | ret =>
          obtain ⟨M4, h41, h42, hi4⟩ := hp
          obtain ⟨f1, f2, f3, f4, f5, f6, f7⟩ := fin (some .ret) B3 M4 h42 h41
          refine ⟨_, _, f1, _, f5, f4, .inr ⟨rfl, ?_⟩⟩
          rw [hJd]
          exact ⟨M4, _, _, ⟨rfl, rfl⟩, fun _ => Iff.rfl, f6, ⟨_, rfl, hIx _ _ _ _ _ hi4 f7⟩, f2, f3⟩
        | exit id =>
          obtain ⟨M4, h41, h42, hi4⟩ := hp
          obtain ⟨f1, f2, f3, f4, f5, f6, f7⟩ := fin (some (.exit id)) B3 M4 h42 h41
          refine ⟨_, _, f1, _, f5, f4, .inr ⟨rfl, ?_⟩⟩
          rw [hJd]
          exact ⟨M4, _, _, ⟨rfl, rfl⟩, fun _ => Iff.rfl, f6, ⟨_, rfl, hIx _ _ _ _ _ hi4 f7⟩, f2, f3⟩
        | goto t =>
          obtain ⟨M4, h41, h42, hi4⟩ := hp
          obtain ⟨f1, f2, f3, f4, f5, f6, f7⟩ := fin (some (.goto t)) B3 M4 h42 h41
          refine ⟨_, _, f1, _, f5, f4, .inr ⟨rfl, ?_⟩⟩
          rw [hJd]
          exact ⟨M4, _, _, ⟨rfl, rfl⟩, fun _ => Iff.rfl, f6, ⟨_, rfl, hIx _ _ _ _ _ hi4 f7⟩, f2, f3⟩
        | panic ch => exact hp.elim
        | outgrown => exact hp.elim
    · rw [hJd]
      exact ⟨M, _, _, ⟨rfl, rfl⟩, fun _ => Iff.rfl, fun i h => by have := hM i h; omega, hI1, hL1, hK1⟩
    · -- BEHIND THE ITERATOR
      rintro e W2 ⟨⟨v, rfl⟩, Mh, hm1, hk, hj⟩
      have ends : ∀ (M4 : Nat → Prop) (st : LoopState) (pe : Option Code), st ≠ .busy → (∀ i, Mh i ↔ (M4 i ∨ i = w.heap.size + 1 ∨ i = w.heap.size)) → (∀ i, M4 i → i ≠ w.heap.size + 1 ∧ i ≠ w.heap.size) → W2.heap[w.heap.size + 1]? = some (.loop (rec st pe)) → W2.heap[w.heap.size]? = some (.deferred (some [])) →
          (Instr.endLoop (w.heap.size + 1)).run P W2 = .ok pe (W2.putObj (w.heap.size + 1) (.loop (rec .exhausted pe))) ∧
          Kpt (fun i => w.heap.size ≤ i ∧ ¬ M4 i) W2 (W2.putObj (w.heap.size + 1) (.loop (rec .exhausted pe))) ∧ Kpt M w (W2.putObj (w.heap.size + 1) (.loop (rec .exhausted pe))) ∧
          (∀ i, M4 i → (M i ∨ w.heap.size ≤ i) ∧ i < (W2.putObj (w.heap.size + 1) (.loop (rec .exhausted pe))).heap.size) ∧ (W2.putObj (w.heap.size + 1) (.loop (rec .exhausted pe))).heap[w.heap.size]? = some (.deferred (some [])) := by
        intro M4 st pe hst h1 h2 hl hd
        have hr := run_endLoop (P := P) hl (by rw [hrec]; exact hst)
        have hpo : Kpt (fun i => i = w.heap.size + 1) W2 (W2.putObj (w.heap.size + 1) (.loop (rec .exhausted pe))) := .putObj _ _ _
        have hps : (W2.putObj (w.heap.size + 1) (.loop (rec .exhausted pe))).heap.size = W2.heap.size := by simp [World.putObj]
        refine ⟨by rw [hrec] at hr ⊢; exact hr, hpo.mono (fun i _ e => ⟨by omega, fun k => (h2 i k).1 e⟩), ?_, fun i h => ?_, (World.putObj_heap_other (by omega)).trans hd⟩
        · refine Kpt.trans (M1 := M) ((Kpt.of_new M hB1).trans hk (fun i hi h => ?_)) hpo (fun i hi h => ?_)
          · rcases h with h | h | h | h
            · exact h
            · exact h
            · omega
            · omega
          · rcases h with h | h
            · exact h
            · omega
        · rw [hps]
          have := hm1 i ((h1 i).2 (.inl h))
          refine ⟨?_, this.2⟩
          rcases this.1 with (k | k | k) | k
          · exact .inl k
          · exact .inr (by omega)
          · exact .inr (by omega)
          · exact .inr (by omega)
      rcases hj with hj | ⟨pre, hpre, hj⟩
      · rw [hJd] at hj
        obtain ⟨M4, st, pe, ⟨rfl, rfl⟩, h1, h2, hi, hl, hd⟩ := hj
        obtain ⟨e1, e2, e3, e4, e5⟩ := ends M4 _ _ (by simp) h1 h2 hl hd
        exact ⟨none, _, e1, hdone _ _ M4 (hI _ _ _ _ hi e2) e3 e4 e5 (Nat.le_refl _) (fun h => (h2 _ h).2 rfl)⟩
      · rw [hJd] at hj
        obtain ⟨M4, st, pe, ⟨rfl, hp⟩, h1, h2, ⟨c, rfl, hi⟩, hl, hd⟩ := hj
        obtain ⟨e1, e2, e3, e4, e5⟩ := ends M4 _ _ (by simp) h1 h2 hl hd
        exact ⟨some c, _, e1, hstop _ c pre _ M4 hpre (hIx _ _ _ _ _ hi e2) e3 e4 e5 (Nat.le_refl _) (fun h => (h2 _ h).2 rfl)⟩
end Go.Proofs.YtihdlalbgdighaaDoor.Seq
/- A region that draws its order, in a round of a range over a function: one condition S on the world for the whole region; what yields its value in every world that meets S is taken first. -/
namespace Go.Proofs.YtihdlalbgdighaaDoor.Seq
open Go Go.RowKit
set_option linter.unusedVariables false

abbrev Rn (l : Nat) : Fence := Fence.wide.inRound l
theorem calls_in (l n : Nat) {P : Program} {f : FuncId} {args : Array Value} {w : World} {R : Ending → World → Prop} (h : Calls P f args w R) : CallsIn (Rn l) n P f args w R :=
  CallsIn.inRound l (callsIn_wide.2 h)
theorem rows_in (l n : Nat) {P : Program} {row : String} {args : Array Value} {w : World} {R : Value → World → Prop} (h : Rows P row args w R) : RowsIn (Rn l) n P row args w R := by
  intro c cs _
  obtain ⟨v, w', r, s⟩ := h c cs
  exact ⟨v, w', r, stepsIn_wide.2 s⟩
/-- An operation that is no deferred call, carried out in a round, goes as anywhere. -/
theorem op_in (l n : Nat) {P : Program} {o : Oper} {a : Act} {w : World} {K : Act → World → Prop} {Q : Exit → Act → World → Prop} (hnd : ∀ c, o.op ≠ .defer c) (h : o.wp P a w K Q) : o.wpIn (Rn l) n P a w K Q := by
  refine ⟨fun _ _ => trivial, ?_⟩
  unfold Oper.wp at h
  rw [show (Rn l).round = some l from rfl, Oper.semAt_some l _ _ hnd]
  generalize (execOp a.eval o).run P w = r at h
  cases r with
  | ok x w' =>
    cases x <;> simp only [Oper.upon, Oper.uponIn] at h ⊢
    case value v => exact h
    case skip => exact h
    case defer d => exact h
    case enter f args => exact ⟨(fun h => by cases h), calls_in l _ h⟩
    case row row args => exact ⟨(fun h => by cases h), rows_in l _ h⟩
  | halt x w' => cases x <;> simp only [Oper.upon, Oper.uponIn] at h ⊢; exact h

section
variable {l : Nat} {P : Program} {ops : Array Oper} {Q : Exit → Act → World → Prop} {S : World → Prop} {d : Nat}
def noDefer (ops : Array Oper) : Bool := ops.toList.all fun o => match o.op with | .defer _ => false | _ => true
theorem noDefer_spec (h : noDefer ops = true) (j : Nat) (o : Oper) (ho : ops[j]? = some o) : ∀ c, o.op ≠ .defer c := by
  intro c e
  have hm : o ∈ ops.toList := by
    have := Array.mem_of_getElem? ho
    simpa using this
  have := List.all_eq_true.1 h o hm
  rw [e] at this
  simp at this

/-- Number d waits for number i. -/
def waitsOn (ops : Array Oper) (d i : Nat) : Bool := match ops[d]? with
  | some o => o.after.toList.any (fun e => Region.binds .any e && e.on == i)
  | none => true
/-- S is to hold behind each operation but number d. -/
def wpAnyR (l : Nat) (P : Program) (ops : Array Oper) (Q : Exit → Act → World → Prop) (S : World → Prop) (d : Nat) : Nat → Array Bool → Act → World → Prop
  | 0, listed, a, w => Region.ready .any ops listed = [] ∧ Q .normal a w
  | fuel + 1, listed, a, w => (Region.ready .any ops listed = [] → Q .normal a w) ∧
    ∀ i ∈ Region.ready .any ops listed, wpOpIn (Rn l) 0 P ops Q i (fun a' w' => (i = d ∨ S w') ∧ wpAnyR l P ops Q S d fuel (listed.setIfInBounds i true) a' w') a w
theorem wpAnyIn_of_R : ∀ (fuel : Nat) (listed : Array Bool) (a : Act) (w : World), wpAnyR l P ops Q S d fuel listed a w → wpAnyIn (Rn l) 0 P .any ops Q fuel listed a w
  | 0, _, _, _, h => h
  | fuel + 1, _, _, _, h => ⟨h.1, fun i hi => wpOpIn_mono (fun a' w' h' => wpAnyIn_of_R fuel _ a' w' h'.2) (h.2 i hi)⟩
theorem YieldsIf.wpOpR {i : Nat} {o : Oper} {v : Value} {a : Act} (hnd : noDefer ops = true) (hi : ops[i]? = some o) (hy : YieldsIf P ops S o v a) {K : Act → World → Prop} {w : World} (hS : S w) (h : K (a.put o.dst v) w) : wpOpIn (Rn l) 0 P ops Q i K a w := by
  unfold Go.wpOpIn
  simp only [hi]
  rcases hy with ⟨hw, hv⟩ | ⟨hw, rfl⟩
  · simp only [hw, if_true]
    exact op_in l 0 (noDefer_spec hnd i o hi) (by simp only [Oper.wp, hv w hS, Oper.upon]; exact h)
  · simp only [hw, Bool.false_eq_true, if_false]; exact ⟨fun _ _ => trivial, h⟩
theorem wpOpR_putIf {j : Nat} {oi oj : Oper} {v : Value} (hnd : noDefer ops = true) (hj : ops[j]? = some oj) (hap : oi.apart ops oj = true)
    (hsi : ∀ cs b, oi.op ≠ .select cs b) (hsj : ∀ cs b, oj.op ≠ .select cs b)
    (hQ : ∀ c a w, Q (.panic c) (a.put oi.dst v) w → Q (.panic c) a w) {K : Act → World → Prop} {a : Act} {w : World}
    (hy : YieldsIf P ops S oi v a) (h : wpOpIn (Rn l) 0 P ops Q j K (a.put oi.dst v) w) :
    wpOpIn (Rn l) 0 P ops Q j (fun a' w' => YieldsIf P ops S oi v a' ∧ K (a'.put oi.dst v) w') a w := by
  have hnj := noDefer_spec hnd j oj hj
  obtain ⟨h1, h2, h3⟩ := Oper.apart_spec hap
  have keep : ∀ (a : Act), YieldsIf P ops S oi v a → ∀ u, YieldsIf P ops S oi v (a.put oj.dst u) := fun a hy u =>
    hy.of_same (execOp_put oi hsi a oj.dst u h3) (wanted_put oi a oj.dst u h3)
  have keepD : ∀ d, YieldsIf P ops S oi v { a with defers := d :: a.defers } := fun d => hy.of_same rfl rfl
  unfold wpOpIn at *
  simp only [hj] at *
  rw [wanted_put oj a oi.dst v h1] at h
  split
  · rename_i hw
    simp only [hw, if_true] at h
    unfold Oper.wpIn at *
    refine ⟨fun _ _ => trivial, ?_⟩
    have h := h.2
    rw [show (Rn l).round = some l from rfl, Oper.semAt_some l _ _ hnj] at h ⊢
    rw [execOp_put oj hsj a oi.dst v h1] at h
    generalize (execOp a.eval oj).run P w = r at *
    cases r with
    | ok x w' =>
      cases x <;> simp only [Oper.uponIn] at h ⊢
      case value u => exact ⟨keep a hy u, by rw [← Act.put_comm a v u h2]; exact h⟩
      case skip => exact ⟨keep a hy _, by rw [← Act.put_comm a v undef h2]; exact h⟩
      case defer d =>
        refine ⟨keep _ (keepD d) _, ?_⟩
        rw [← Act.put_comm _ v undef h2, ← Act.put_defers]
        exact h
      case enter f args =>
        refine ⟨h.1, CallsIn.mono h.2 fun e w'' he => ?_⟩
        cases e with
        | returned u => exact ⟨keep a hy u, by rw [← Act.put_comm a v u h2]; exact he⟩
        | panicked c => exact hQ _ _ _ he
        | outgrown => exact he
      case row row args => exact ⟨h.1, RowsIn.mono h.2 fun u w'' he => ⟨keep a hy u, by rw [← Act.put_comm a v u h2]; exact he⟩⟩
      case round l f tmps assign body =>
        refine ⟨h.1, RoundIn.mono h.2 fun e w'' he => ?_⟩
        cases e with
        | returned u => exact ⟨keep a hy u, by rw [← Act.put_comm a v u h2]; exact he⟩
        | panicked c => exact hQ _ _ _ he
        | outgrown => exact he
    | halt x w' =>
      cases x <;> simp only [Oper.uponIn] at h ⊢
      case panic u => exact hQ _ _ _ h
  · rename_i hw
    simp only [hw] at h
    exact ⟨fun _ _ => trivial, keep a hy _, by rw [← Act.put_comm a v undef h2]; exact h.2⟩
theorem wpAnyR_first {i : Nat} {oi : Oper} {v : Value} (hnd : noDefer ops = true) (hwd : waitsOn ops d i = true) (hi : ops[i]? = some oi) (hsel : ∀ (j : Nat) (o : Oper) cs b, ops[j]? = some o → o.op ≠ .select cs b)
    (hQ : ∀ c a w, Q (.panic c) (a.put oi.dst v) w → Q (.panic c) a w) :
    ∀ (fuel : Nat) (listed : Array Bool) (a : Act) (w : World),
      (∀ j oj, ops[j]? = some oj → j ≠ i → listed.getD j true = false → (∀ e ∈ oj.after, Region.binds .any e = true → e.on ≠ i) → oi.apart ops oj = true) →
      i ∈ Region.ready .any ops listed → YieldsIf P ops S oi v a → S w →
      wpAnyR l P ops Q S d fuel (listed.setIfInBounds i true) (a.put oi.dst v) w → wpAnyR l P ops Q S d (fuel + 1) listed a w := by
  intro fuel
  induction fuel with
  | zero =>
    intro listed a w _ hr hy hS H
    refine ⟨fun h => (by rw [h] at hr; cases hr), fun j hj => ?_⟩
    by_cases hji : j = i
    · subst hji; exact YieldsIf.wpOpR hnd hi hy hS ⟨.inr hS, H⟩
    · have := ready_mono hj hji
      rw [H.1] at this
      cases this
  | succ fuel ih =>
    intro listed a w hfree hr hy hS H
    refine ⟨fun h => (by rw [h] at hr; cases hr), fun j hj => ?_⟩
    by_cases hji : j = i
    · subst hji; exact YieldsIf.wpOpR hnd hi hy hS ⟨.inr hS, H⟩
    · have h1 := H.2 j (ready_mono hj hji)
      obtain ⟨hjun, oj, hoj, hall⟩ := mem_ready.1 hj
      have hnot : ∀ e ∈ oj.after, Region.binds .any e = true → e.on ≠ i := fun e he hb heq => by
        have h1 := hall e he hb
        have h0 := (mem_ready.1 hr).1
        rw [heq] at h1
        rcases Nat.lt_or_ge i listed.size with h' | h'
        · simp [h'] at h0 h1; rw [h0] at h1; cases h1
        · simp [Array.getElem?_eq_none h'] at h1
      have h2 := wpOpR_putIf hnd hoj (hfree j oj hoj hji hjun hnot) (fun cs b => hsel i oi cs b hi) (fun cs b => hsel j oj cs b hoj) hQ hy h1
      have hfree' : ∀ k ok, ops[k]? = some ok → k ≠ i → (listed.setIfInBounds j true).getD k true = false →
          (∀ e ∈ ok.after, Region.binds .any e = true → e.on ≠ i) → oi.apart ops ok = true := fun k ok hk hki hun hno => by
        refine hfree k ok hk hki ?_ hno
        by_cases hjk : j = k
        · subst hjk; exact hjun
        · rw [getD_set_ne true hjk] at hun; exact hun
      have hjd : j ≠ d := by
        rintro rfl
        unfold waitsOn at hwd
        rw [hoj] at hwd
        obtain ⟨q, hq, hqb⟩ := List.any_eq_true.1 hwd
        rw [Array.mem_toList_iff] at hq
        rw [Bool.and_eq_true] at hqb
        exact hnot q hq hqb.1 (by simpa using hqb.2)
      refine wpOpIn_mono (fun a' w' h3 => ⟨.inr (h3.2.1.resolve_left hjd), ih (listed.setIfInBounds j true) a' w' hfree' (ready_mono hr (Ne.symm hji)) h3.1 (h3.2.1.resolve_left hjd) ?_⟩) h2
      rw [Array.setIfInBounds_comm _ _ hji]
      exact h3.2.2
/-- Take number i first. -/
theorem wpAnyR_take {i : Nat} {oi : Oper} {v : Value} {fuel : Nat} {listed : Array Bool} {a : Act} {w : World} (hnd : noDefer ops = true) (hwd : waitsOn ops d i = true) (hi : ops[i]? = some oi)
    (hs : Region.noSelect ops = true) (hf : Region.free .any ops listed i = true) (hr : (Region.ready .any ops listed).contains i = true)
    (hQ : ∀ c a w, Q (.panic c) (a.put oi.dst v) w → Q (.panic c) a w) (hy : YieldsIf P ops S oi v a) (hS : S w)
    (h : wpAnyR l P ops Q S d fuel (listed.setIfInBounds i true) (a.put oi.dst v) w) : wpAnyR l P ops Q S d (fuel + 1) listed a w :=
  wpAnyR_first hnd hwd hi (Region.noSelect_spec hs) hQ fuel listed a w (Region.free_spec hi hf) (by simpa using hr) hy hS h
/-- Number i is the only one that may come up: it goes as anywhere. -/
theorem wpAnyR_one {i : Nat} {o : Oper} {fuel : Nat} {listed : Array Bool} {a : Act} {w : World} (hnd : noDefer ops = true) (hr : Region.ready .any ops listed = [i]) (ho : ops[i]? = some o)
    (h : ∀ K' : Act → World → Prop, Shut (∀ a w, (i = d ∨ S w) → wpAnyR l P ops Q S d fuel (listed.setIfInBounds i true) a w → K' a w) → if Region.wanted o (yielded ops a.tmps) = true then Oper.wp P o a w K' Q else K' (a.put o.dst undef) w) :
    wpAnyR l P ops Q S d (fuel + 1) listed a w := by
  refine ⟨fun h0 => (by rw [hr] at h0; cases h0), fun j hj => ?_⟩
  rw [hr] at hj
  obtain rfl := List.mem_singleton.1 hj
  have := h (fun a' w' => (j = d ∨ S w') ∧ wpAnyR l P ops Q S d fuel (listed.setIfInBounds j true) a' w') (fun a w hs hw => ⟨hs, hw⟩)
  unfold Go.wpOpIn
  simp only [ho]
  split
  · rename_i hw; rw [if_pos hw] at this; exact op_in l 0 (noDefer_spec hnd j o ho) this
  · rename_i hw; rw [if_neg hw] at this; exact ⟨fun _ _ => trivial, this⟩
/-- Number i is the only one that may come up, and it is a call of yield (or whatever else goes in a round alone). -/
theorem wpAnyR_oneIn {i : Nat} {o : Oper} {fuel : Nat} {listed : Array Bool} {a : Act} {w : World} (hr : Region.ready .any ops listed = [i]) (ho : ops[i]? = some o)
    (h : ∀ K' : Act → World → Prop, Shut (∀ a w, (i = d ∨ S w) → wpAnyR l P ops Q S d fuel (listed.setIfInBounds i true) a w → K' a w) → if Region.wanted o (yielded ops a.tmps) = true then Oper.wpIn (Rn l) 0 P o a w K' Q else K' (a.put o.dst undef) w) :
    wpAnyR l P ops Q S d (fuel + 1) listed a w := by
  refine ⟨fun h0 => (by rw [hr] at h0; cases h0), fun j hj => ?_⟩
  rw [hr] at hj
  obtain rfl := List.mem_singleton.1 hj
  have := h (fun a' w' => (j = d ∨ S w') ∧ wpAnyR l P ops Q S d fuel (listed.setIfInBounds j true) a' w') (fun a w hs hw => ⟨hs, hw⟩)
  unfold Go.wpOpIn
  simp only [ho]
  split
  · rename_i hw; rw [if_pos hw] at this; exact this
  · rename_i hw; rw [if_neg hw] at this; exact ⟨fun _ _ => trivial, this⟩
theorem wpAnyR_done {listed : Array Bool} {a : Act} {w : World} (hr : Region.ready .any ops listed = []) (h : Q .normal a w) : ∀ fuel, wpAnyR l P ops Q S d fuel listed a w
  | 0 => ⟨hr, h⟩
  | _ + 1 => ⟨fun _ => h, by rw [hr]; simp⟩
/-- The beginning. -/
theorem wpIn_region_R (d : Nat) {id : Nat} {a : Act} {w : World} (hm : P.follows .mixedOrders = true) (hS : S w.drew)
    (h : S w.drew → wpAnyR l P ops Q S d ops.size (Array.replicate ops.size false) a w.drew) : (Code.region id ops true).wpIn (Rn l) 0 P Q a w :=
  wpIn_region_any hm (wpAnyIn_of_R _ _ _ _ (h hS))
end
end Go.Proofs.YtihdlalbgdighaaDoor.Seq
/- slices.Values of a slice of rows: the iterator hands out the rows, one behind the other. -/
namespace Go.Proofs.YtihdlalbgdighaaDoor.QV
open Go.RowKit Go.Proofs.YtihdlalbgdighaaDoorW.PrintWords Go.Proofs.YtihdlalbgdighaaDoor.Seq Go.Shelf
set_option linter.unusedVariables false
set_option maxRecDepth 100000
set_option linter.unusedSimpArgs false
attribute [local go_sem] Oper.semAt_some

abbrev Row : Type := List S61
abbrev kRows : Kd Row := Kd.slice 61 k61
abbrev tRow : Nat := 62

theorem values_any (sv : Value) (hs : ∃ A n c, sv = .slice A n c) (w : World) :
    Calls Tryd.prog 22 #[sv] w fun e w' => e = .returned (.func (.func 44) #[] #[.pointer (some ⟨w.heap.size, 0, none⟩)]) ∧ w' = w.alloc (.cells #[sv] 28) := by
  obtain ⟨A, n, c, rfl⟩ := hs
  go_enter Tryd.func22, Tryd.ntmps22
  go_wp2
  go_ret
  exact ⟨rfl, rfl⟩

/-- 'seq == nil', of an iterator that is none. -/
theorem run_equalIn_func_nil {P : Program} {t : TypeId} {ps rs : Array TypeId} {b : Bool} (ht : P.underlying t = some (.func ps rs b)) (d : Nat) (fn : Fn) (lb : Array Value) (w : World) : (Op.equalIn (d + 1) t (.func fn #[] lb) .nilFunc).run P w = .ok false w := by
  simp [Op.equalIn, run_underlying ht]
theorem run_func_nil {P : Program} {t : TypeId} {ps rs : Array TypeId} {b : Bool} (ht : P.underlying t = some (.func ps rs b)) (fn : Fn) (lb : Array Value) (w : World) : (binOp .eql t (.func fn #[] lb) .nilFunc).run P w = .ok (.bool false) w := by
  have h : (Op.equal t (.func fn #[] lb) .nilFunc).run P w = .ok false w := run_equalIn_func_nil ht 9999 fn lb w
  simp [binOp, h]
/-- A row that was there when the iterator was made. -/
def RdOld (w0 : World) (A : World) (N : Nat → Prop) (x : Row) (vs : Array Value) : Prop :=
  (∀ i, ¬ N i) ∧ Below w0.heap.size w0 A ∧ ∃ Ad c, vs = #[.slice Ad x.length c] ∧ x.length ≤ c ∧ kS.C w0 Ad x.length x
theorem RdOld.kept {w0 A B : World} {N : Nat → Prop} {x : Row} {vs : Array Value} (h : RdOld w0 A N x vs) (hk : Kpt (fun i => w0.heap.size ≤ i ∧ ¬ N i) A B) : RdOld w0 B N x vs :=
  ⟨h.1, h.2.1.trans (hk.below h.2.1.size (fun i _ k => k.1)), h.2.2⟩
theorem RS_ok {w : World} {base : Nat} {ok ok' : Nat → Prop} {v : Value} {x : Row} (h : kS.R tS w base ok v x) (h' : ∀ k, v.ownBlock = some k → ok' k) : kS.R tS w base ok' v x :=
  ⟨h', h.2.imp_ (fun _ _ hp => kS_KM _ _ (kS.K_of_M hp))⟩
/-- A row of the consumer's own: made since. -/
def RdNew (w0 : World) (A : World) (N : Nat → Prop) (x : Row) (vs : Array Value) : Prop :=
  ∃ v, vs = #[v] ∧ kS.R tS A w0.heap.size N v x ∧ ∀ i, N i → i < A.heap.size
theorem RdNew.kept {w0 A B : World} {N : Nat → Prop} {x : Row} {vs : Array Value} (h : RdNew w0 A N x vs) (hk : Kpt (fun i => w0.heap.size ≤ i ∧ ¬ N i) A B) : RdNew w0 B N x vs := by
  obtain ⟨v, rfl, hr, hN⟩ := h
  exact ⟨v, rfl, Kd.R_move hr (fun k hk' => hk.block k (hN k hk') (fun z => z.2 hk')), fun i hi => Nat.lt_of_lt_of_le (hN i hi) hk.size⟩
theorem take_snoc' {α : Type} (z : α) (l : List α) (i : Nat) (h : i < l.length) : l.take i ++ [l.getD i z] = l.take (i + 1) := by
  rw [List.take_succ_eq_append_getElem h, List.getD_eq_getElem?_getD, List.getElem?_eq_getElem h]; rfl

set_option maxRecDepth 100000 in
set_option maxHeartbeats 2000000 in
theorem values_seq (A : Option Addr) (xs : List Row) (c B : Nat) (w : World) (hB : B < w.heap.size) (hcell : w.cell? ⟨B, 0, none⟩ = some (.slice A xs.length c)) (hr : kRows.C w A xs.length xs) :
    SeqOf Tryd.prog 44 #[.pointer (some ⟨B, 0, none⟩)] (RdOld w) xs w := by
  intro l J Jx W M hW hM hJ hJx hY h0
  have hmax := hr.2.1
  have hcW : W.cell? ⟨B, 0, none⟩ = some (.slice A xs.length c) := (hW.cell (p := ⟨B, 0, none⟩) hB).trans hcell
  refine (callsIn_wide (n := 0)).1 (callsIn_of_wp Tryd.func44 rfl trivial ?_ rfl)
  simp only [Tryd.ntmps44, List.size_toArray, List.length_cons, List.length_nil, Nat.reduceAdd, Nat.reduceSub, Array.replicate_succ, Array.replicate_zero, List.push_toArray, List.append_toArray, List.nil_append, List.cons_append]
  gi_wp2
  gi_loopw [7] (fun i wr => ∃ k : Nat, k ≤ xs.length ∧ i = .int .i64 k ∧ ∃ Mk : Nat → Prop, J (xs.take k) Mk wr ∧ (∀ i, Mk i → (M i ∨ W.heap.size ≤ i) ∧ i < wr.heap.size) ∧ Kpt M W wr)
    (fun i _ => xs.length - (intOf i).toNat)
  case atStart => exact ⟨0, Nat.zero_le _, rfl, M, by simpa using h0, fun i hi => ⟨.inl hi, (hM i hi).2⟩, Kpt.refl _ _⟩
  case round =>
    obtain ⟨k, hk, rfl, Mk, hJk, hMk, hkp⟩ := hrel
    have hBr : Below w.heap.size w wr := hW.trans (hkp.below hW.size (fun i _ h => (hM i h).1))
    by_cases hlt : k < xs.length
    · obtain ⟨ad, cs, rfl, _, hK, hcs⟩ := Kd.C_get hr [] k (by omega) (by omega)
      obtain ⟨Ad, cp, rfl, hle, hC⟩ := hK
      have hx : xs.getD (k : Int).toNat [] = xs.getD k [] := rfl
      rw [hx] at hle hC hcs
      have hc0 := pw_cell_below hBr (hcs 0 _ rfl)
      have hsz : kRows.sz = 1 := rfl
      rw [hsz, Int.toNat_natCast, Nat.mul_one, Nat.add_zero] at hc0
      have hts := take_snoc' ([] : Row) xs k hlt
      have hYk := hY (xs.take k) (xs.getD k []) #[.slice Ad (xs.getD k []).length cp] (fun _ => False) wr Mk hJk (by rw [hts]; exact List.take_prefix _ _) ⟨fun _ h => h, hBr, Ad, cp, rfl, hle, hC⟩
        (fun i hi => ⟨by rcases (hMk i hi).1 with h | h; exact (hM i h).1; exact Nat.le_trans hW.size h, (hMk i hi).2⟩) (fun i h => h.elim) hkp.size
      rw [hts] at hYk
      have HT := Lib.hid hts
      clear hts
      generalize xs.getD k [] = x at *
      obtain ⟨fn, tmps, assign, body, hy, hR⟩ := hYk
      gi_wp2
      refine ⟨rfl, hR.mono ?_⟩
      rintro e W3 ⟨M3, hM3, hk3, (⟨rfl, hJ3⟩ | ⟨rfl, hJ3⟩)⟩
      · have hK3 : Kpt M W W3 := hkp.trans hk3 (fun i hi h => by
          rcases h with h | h | h
          · exact h
          · rcases (hMk i h).1 with z | z
            · exact z
            · omega
          · exact h.elim)
        have hMM : ∀ i, M3 i → (M i ∨ W.heap.size ≤ i) ∧ i < W3.heap.size := fun i hi => by
          refine ⟨?_, (hM3 i hi).2⟩
          rcases (hM3 i hi).1 with h | h | h
          · exact (hMk i h).1
          · exact h.elim
          · exact .inr (Nat.le_trans hkp.size h)
        gi_wp2
        go_roundw
        case rel => exact ⟨k + 1, by omega, by go_num, M3, hJ3, hMM, hK3⟩
        case measure => simp [intOf]; omega
      · have hK3 : Kpt M W W3 := hkp.trans hk3 (fun i hi h => by
          rcases h with h | h | h
          · exact h
          · rcases (hMk i h).1 with z | z
            · exact z
            · omega
          · exact h.elim)
        have hMM : ∀ i, M3 i → (M i ∨ W.heap.size ≤ i) ∧ i < W3.heap.size := fun i hi => by
          refine ⟨?_, (hM3 i hi).2⟩
          rcases (hM3 i hi).1 with h | h | h
          · exact (hMk i h).1
          · exact h.elim
          · exact .inr (Nat.le_trans hkp.size h)
        gi_wp2
        refine bodyPost_ret (results_none rfl _ _ _) rfl ?_
        exact ⟨⟨_, rfl⟩, M3, hMM, hK3, .inr ⟨_, List.take_prefix _ _, hJ3⟩⟩
    · obtain rfl : k = xs.length := by omega
      gi_wp2
      go_end0
      rw [List.take_length] at hJk
      exact ⟨⟨_, rfl⟩, Mk, hMk, hkp, .inl hJk⟩
end Go.Proofs.YtihdlalbgdighaaDoor.QV
/- hayloftlaw15.all: what an iterator gives, gathered; each row is spoilt behind its back. -/
namespace Go.Proofs.YtihdlalbgdighaaDoor.QV
open Go.RowKit Go.Proofs.YtihdlalbgdighaaDoorW.PrintWords Go.Proofs.YtihdlalbgdighaaDoor.Seq Go.Shelf
set_option linter.unusedVariables false
set_option linter.unusedSimpArgs false
attribute [local go_sem] Oper.semAt_some

theorem infoRow : (Tryd.prog.info? 62).map (fun i => (i.zero, i.size, i.bytes)) = some (some (.slice none 0 0), 1, 24) := by kernel_rfl
/-- Between two rounds: what has been gathered lies in a box. -/
def AllI (B b0 : Nat) (pre : List Row) (M : Nat → Prop) (A : World) : Prop :=
  M B ∧ ∃ v, A.heap[B]? = some (.cells #[v] 28 (0, 0)) ∧ Kd.S kRows tRow A b0 (fun k => M k ∧ k ≠ B) v pre
theorem AllI.kept {B b0 : Nat} {pre : List Row} {M : Nat → Prop} {A A' : World} {q : Nat → Prop} (h : AllI B b0 pre M A) (hk : Kpt (fun i => q i ∧ ¬ M i) A A') : AllI B b0 pre M A' := by
  obtain ⟨h1, v, h2, h3⟩ := h
  exact ⟨h1, v, hk.at h2 (fun h => h.2 h1), Kd.S_step h3 (fun k hk' hlt => hk.block k hlt (fun h => h.2 hk'.1))⟩

end Go.Proofs.YtihdlalbgdighaaDoor.QV
/- An iterator that ranges over another one: what lies between the consumer's rounds. -/
namespace Go.Proofs.YtihdlalbgdighaaDoor.Seq
open Go Go.RowKit
set_option linter.unusedVariables false
theorem round_in {n : Nat} {P : Program} {l : Nat} {f : FuncId} {tmps : Array Value} {assign body : Code} {w : World} {R : Ending → World → Prop} (l' : Nat) (h : RoundIn Fence.wide n P l f tmps assign body w R) : RoundIn (Rn l') n P l f tmps assign body w R := h
/-- The consumer's J (whose blocks were Mc when the walk began, in W), in an iterator that had come to W2 when it began to range over another one: its blocks now, Mj, and the iterator's own. -/
def J2 {α : Type} (J : List α → (Nat → Prop) → World → Prop) (Mc : Nat → Prop) (W W2 : World) (xs : List α) (Mh : Nat → Prop) (A : World) : Prop :=
  ∃ Mj, J xs Mj A ∧ (∀ i, Mh i ↔ (Mj i ∨ (W.heap.size ≤ i ∧ i < W2.heap.size))) ∧ (∀ i, Mj i → (Mc i ∨ W2.heap.size ≤ i) ∧ i < A.heap.size) ∧ Kpt Mc W2 A
theorem J2.kept {α : Type} {J : List α → (Nat → Prop) → World → Prop} {Mc : Nat → Prop} {W W2 : World} {xs : List α} {Mh : Nat → Prop} {A B : World}
    (hJ : ∀ pre M A B, J pre M A → Kpt (fun i => W.heap.size ≤ i ∧ ¬ M i) A B → J pre M B) (hz : W.heap.size ≤ W2.heap.size) (h : J2 J Mc W W2 xs Mh A) (hk : Kpt (fun i => W2.heap.size ≤ i ∧ ¬ Mh i) A B) : J2 J Mc W W2 xs Mh B := by
  obtain ⟨Mj, h1, h2, h3, h4⟩ := h
  refine ⟨Mj, hJ _ _ _ _ h1 (hk.mono (fun i _ h => ⟨by omega, fun k => h.2 ((h2 i).2 (.inl k))⟩)), h2, fun i hi => ⟨(h3 i hi).1, Nat.lt_of_lt_of_le (h3 i hi).2 hk.size⟩, h4.trans hk (fun i hi h => ?_)⟩
  rcases h with h | h
  · exact h
  · omega
theorem J2.put {α : Type} {J : List α → (Nat → Prop) → World → Prop} {Mc : Nat → Prop} {W W2 : World} {xs : List α} {Mh : Nat → Prop} {A : World} {D : Nat} {o : Obj}
    (hJ : ∀ pre M A B, J pre M A → Kpt (fun i => W.heap.size ≤ i ∧ ¬ M i) A B → J pre M B) (hMc : ∀ i, Mc i → i < W.heap.size) (hz : W.heap.size ≤ W2.heap.size) (h : J2 J Mc W W2 xs Mh A) (hD : W2.heap.size ≤ D) (hDM : ¬ Mh D) : J2 J Mc W W2 xs Mh (A.putObj D o) :=
  h.kept hJ hz ((Kpt.putObj A D o).mono (fun i _ e => by rw [e]; exact ⟨hD, hDM⟩))
theorem J2.ends {α : Type} {J : List α → (Nat → Prop) → World → Prop} {Mc : Nat → Prop} {W W2 : World} {xs : List α} {Mh : Nat → Prop} {A : World} {D : Nat} {o : Obj}
    (hJ : ∀ pre M A B, J pre M A → Kpt (fun i => W.heap.size ≤ i ∧ ¬ M i) A B → J pre M B) (hMc : ∀ i, Mc i → i < W.heap.size) (hBW : Below W.heap.size W W2) (h : J2 J Mc W W2 xs Mh A) (hD : W.heap.size ≤ D) (hDM : W2.heap.size ≤ D → ¬ Mh D) :
    ∃ M', (∀ i, M' i → (Mc i ∨ W.heap.size ≤ i) ∧ i < (A.putObj D o).heap.size) ∧ Kpt Mc W (A.putObj D o) ∧ J xs M' (A.putObj D o) := by
  obtain ⟨Mj, h1, h2, h3, h4⟩ := h
  have hz := hBW.size
  have hp : Kpt (fun i => i = D) A (A.putObj D o) := Kpt.putObj A D o
  refine ⟨Mj, fun i hi => ⟨by rcases (h3 i hi).1 with h | h; exact .inl h; exact .inr (by omega), Nat.lt_of_lt_of_le (h3 i hi).2 hp.size⟩, ?_, hJ _ _ _ _ h1 (hp.mono (fun i _ e => ?_))⟩
  · exact ((Kpt.of_new Mc hBW).trans h4 (fun _ _ h => h.elim id id)).trans hp (fun i hi h => by
      rcases h with h | h
      · exact h
      · omega)
  · rw [e]
    refine ⟨hD, fun k => ?_⟩
    rcases Nat.lt_or_ge D W2.heap.size with hl | hl
    · rcases (h3 D k).1 with z | z
      · have := hMc D z; omega
      · omega
    · exact hDM hl ((h2 D).2 (.inl k))
end Go.Proofs.YtihdlalbgdighaaDoor.Seq
/- A scope through which the run goes without a jump, in a round too (the kit has it for a plain walk only). -/
namespace Go.Proofs.YtihdlalbgdighaaDoor.Op
open Go
section
variable {F : Fence} {n : Nat} {P : Program} {b : Frame} {a : Act} {k : List Item} {cs : List Frame} {w : World} {Q : Exit → Act → World → Prop}
theorem stepR_scope {c : Code} : step P (lone (b.atR a (.code (.scope c) :: k)) cs w) = .next (lone (b.atR a (.code c :: .inScope c :: k)) cs w) :=
  step_lone_go (by simp [stepG, stepG.exec, Frame.atR])
theorem stepR_inScope {c : Code} : step P (lone (b.atR a (.inScope c :: k)) cs w) = .next (lone (b.atR a k) cs w) :=
  step_lone_go (by simp [stepG, stepG.exec, Frame.atR])
theorem wpIn_scope {c : Code} (h : c.wpIn F n P (Exit.noGoto Q) a w) : (Code.scope c).wpIn F n P Q a w := by
  intro b k cs hro hb hr
  have h0 : (lone (b.atR a (.code (.scope c) :: k)) cs w).fenced P F := fenced_calm hb hr rfl
  obtain ⟨e, a₁, w₁, hq, harr⟩ := h b (.inScope c :: k) cs hro hb hr
  cases e with
  | normal => exact ⟨.normal, a₁, w₁, hq, .head h0 stepR_scope (StepsIn.trans harr (.one (fenced_calm hb hr rfl) stepR_inScope))⟩
  | exit id =>
    have hx : exitTo id (.inScope c :: k) = exitTo id k := by simp [exitTo]
    exact ⟨.exit id, a₁, w₁, hq, fun k' hk => .head h0 stepR_scope (harr.1 k' (by rw [hx]; exact hk)), fun hr' hk => let ⟨k₁, h1, h2⟩ := harr.2 hr' (by rw [hx]; exact hk); ⟨k₁, h1, .head h0 stepR_scope h2⟩⟩
  | goto l => exact hq.elim
  | ret => exact ⟨_, a₁, w₁, hq, .of_steps (.one h0 stepR_scope) harr⟩
  | panic ch => exact ⟨_, a₁, w₁, hq, .of_steps (.one h0 stepR_scope) harr⟩
  | outgrown => exact ⟨_, a₁, w₁, hq, .of_steps (.one h0 stepR_scope) harr⟩
end
end Go.Proofs.YtihdlalbgdighaaDoor.Op
/- '==' between values, and between terms, as one Bool. -/
namespace Go.Proofs.YtihdlalbgdighaaDoor.Op
open Go.RowKit Go.Proofs.YtihdlalbgdighaaDoorW.PrintWords
set_option linter.unusedVariables false
theorem eqV (d : Nat) (w : World) (x0 y0 : Int) (x1 y1 : Bool) (x2 y2 : Int) (x3 y3 : ByteArray) :
    (Op.equalIn (d + 2) 61 (.agg #[.int .i64 x0, .bool x1, .int .i64 x2, .string x3]) (.agg #[.int .i64 y0, .bool y1, .int .i64 y2, .string y3])).run Tryd.prog w = .ok (x0 == y0 && (x1 == y1 && (x2 == y2 && (x3.toList == y3.toList)))) w := by
  refine eqA_of Tryd.underlying61 (by kernel_rfl) ?_
  refine eqf_cons (by rfl) (by go_simp; rfl) (by go_simp; rfl) (by go_simp) ?_
  refine eqf_cons (by rfl) (by go_simp; rfl) (by go_simp; rfl) (by go_simp) ?_
  refine eqf_cons (by rfl) (by go_simp; rfl) (by go_simp; rfl) (by go_simp) ?_
  exact eqf_last (by rfl) (by go_simp; rfl) (by go_simp; rfl) (by go_simp)
end Go.Proofs.YtihdlalbgdighaaDoor.Op
/- Which values are right: the reference's Right. -/
namespace Go.Proofs.YtihdlalbgdighaaDoor.Op
open Go.RowKit Go.Proofs.YtihdlalbgdighaaDoorW.PrintWords
set_option linter.unusedVariables false
set_option linter.unusedSimpArgs false

def eqVB (x y : V) : Bool := x.k == y.k && (x.b == y.b && (x.i == y.i && (x.s.toList == y.s.toList)))
def rightV (x : V) : Bool :=
  if x.k = 0 then eqVB x ⟨0, false, 0, ⟨#[]⟩⟩ else if x.k = 1 then eqVB x ⟨1, x.b, 0, ⟨#[]⟩⟩ else if x.k = 2 then eqVB x ⟨2, false, x.i, ⟨#[]⟩⟩
  else if x.k = 3 then eqVB x ⟨3, false, 0, x.s⟩ && decide ((x.s.size : Int) ≤ 64) else false

theorem toList_nil {s : ByteArray} (h : s.toList = []) : (s.size : Int) ≤ 64 := by
  rw [Lib.toList_data] at h
  have z1 := congrArg List.length h
  simp at z1
  rw [show s.size = 0 from by simpa using z1]; decide
theorem nil_toList : (⟨#[]⟩ : ByteArray).toList = [] := by rw [Lib.toList_data]

attribute [local go_sem high] eqV
set_option maxHeartbeats 1000000 in
theorem ref_right (x : V) (w : World) : Calls Tryd.prog 21 #[x.val] w fun e w' => e = .returned (.bool (rightV x)) ∧ Below w.heap.size w w' := by
  obtain ⟨k, b, i, s⟩ := x
  unfold V.val
  by_cases h0 : k = 0
  case' pos => subst h0
  case' neg =>
    by_cases h1 : k = 1
    case' pos => subst h1
    case' neg =>
      by_cases h2 : k = 2
      case' pos => subst h2
      case' neg =>
        by_cases h3 : k = 3
        case' pos => subst h3
        case' neg =>
          have e1 : (k == 1) = false := beq_eq_false_iff_ne.2 h1
          have e2 : (k == 2) = false := beq_eq_false_iff_ne.2 h2
          have e3 : (k == 3) = false := beq_eq_false_iff_ne.2 h3
          have hneg : ¬ (0 ≤ k ∧ k ≤ 3) := by omega
          by_cases hlt : k < 0
  all_goals
    go_enter Tryd.func21, Tryd.ntmps21
    go_wp2
  all_goals go_ret
  all_goals refine ⟨ret_bool ?_, below_alloc (below_alloc (Below.refl w.heap.size w) _) _⟩
  all_goals try (simp [rightV, *]; done)
  all_goals (have := @toList_nil s; simp_all [rightV, eqVB, nil_toList])
end Go.Proofs.YtihdlalbgdighaaDoor.Op
/- Contracts of layer 2 that were proved by hand, in the print's form. -/
namespace Go.Proofs.YtihdlalbgdighaaDoor.QV
open Go.RowKit Go.Proofs.YtihdlalbgdighaaDoorW.PrintWords Go.Proofs.YtihdlalbgdighaaDoor.Op
set_option linter.unusedVariables false
def toV (x : S61) : V := ⟨x.f0, x.f1, x.f2, x.f3⟩
theorem C_map {α β : Type} {d : Kd α} {d' : Kd β} (f : α → β) (hs : d'.sz = d.sz) (hK : ∀ w x cs, d.K w x cs → d'.K w (f x) cs) {w : World} {A : Option Addr} {n : Nat} {xs : List α} (h : d.C w A n xs) : d'.C w A n (xs.map f) := by
  obtain ⟨h1, h2, h3⟩ := h
  refine ⟨by simpa using h1, h2, fun hn => ?_⟩
  obtain ⟨ad, e, hc⟩ := h3 hn
  refine ⟨ad, e, fun j p hj => ?_⟩
  rw [List.getElem?_map] at hj
  obtain ⟨q, hq, rfl⟩ := Option.map_eq_some_iff.1 hj
  obtain ⟨c, k1, k2, k3⟩ := hc j q hq
  exact ⟨c, by rw [hs]; exact k1, hK _ _ _ k2, by rw [hs]; exact k3⟩
theorem C_toV {w : World} {A : Option Addr} {xs : List S61} (h : Kd.C k61 w A xs.length xs) : Kd.C kV w A (xs.map toV).length (xs.map toV) := by
  rw [List.length_map]
  exact C_map toV rfl (fun _ _ _ hk => hk) h

def value_Compare.f (a0_0 : Int) (a0_1 : Bool) (a0_2 : Int) (a0_3 : ByteArray) (a1_0 : Int) (a1_1 : Bool) (a1_2 : Int) (a1_3 : ByteArray) : Option (Int) := some (cmpV ⟨a0_0, a0_1, a0_2, a0_3⟩ ⟨a1_0, a1_1, a1_2, a1_3⟩)
theorem value_Compare.calls (a0_0 : Int) (a0_1 : Bool) (a0_2 : Int) (a0_3 : ByteArray) (a1_0 : Int) (a1_1 : Bool) (a1_2 : Int) (a1_3 : ByteArray) (r : Int) (w : World) (h : value_Compare.f a0_0 a0_1 a0_2 a0_3 a1_0 a1_1 a1_2 a1_3 = some r) :
    Calls Tryd.prog 48 #[.agg #[.int .i64 a0_0, .bool a0_1, .int .i64 a0_2, .string a0_3], .agg #[.int .i64 a1_0, .bool a1_1, .int .i64 a1_2, .string a1_3]] w fun e w' => e = .returned (.int .i64 r) ∧ Below w.heap.size w w' := by
  obtain rfl := Option.some.inj h
  exact compareV ⟨a0_0, a0_1, a0_2, a0_3⟩ ⟨a1_0, a1_1, a1_2, a1_3⟩ w
def hayloftref02_Right.f (a0_0 : Int) (a0_1 : Bool) (a0_2 : Int) (a0_3 : ByteArray) : Option (Bool) := some (rightV ⟨a0_0, a0_1, a0_2, a0_3⟩)
theorem hayloftref02_Right.calls (a0_0 : Int) (a0_1 : Bool) (a0_2 : Int) (a0_3 : ByteArray) (r : Bool) (w : World) (h : hayloftref02_Right.f a0_0 a0_1 a0_2 a0_3 = some r) :
    Calls Tryd.prog 21 #[.agg #[.int .i64 a0_0, .bool a0_1, .int .i64 a0_2, .string a0_3]] w fun e w' => e = .returned (.bool r) ∧ Below w.heap.size w w' := by
  obtain rfl := Option.some.inj h
  exact ref_right ⟨a0_0, a0_1, a0_2, a0_3⟩ w
def value_Rows.f (l0 : List (S61)) (l1 : List (S61)) : Option (Int) := some (rowsV (l0.map toV) (l1.map toV))
theorem value_Rows.calls (A0 : Option Addr) (c0 : Nat) (l0 : List (S61)) (A1 : Option Addr) (c1 : Nat) (l1 : List (S61)) (r : Int) (w : World) (hr0 : Kd.C k61 w A0 l0.length l0) (hc0 : l0.length ≤ c0) (hr1 : Kd.C k61 w A1 l1.length l1) (hc1 : l1.length ≤ c1) (h : value_Rows.f l0 l1 = some r) :
    Calls Tryd.prog 59 #[.slice A0 l0.length c0, .slice A1 l1.length c1] w fun e w' => e = .returned (.int .i64 r) ∧ Below w.heap.size w w' := by
  obtain rfl := Option.some.inj h
  have := rows_any A0 (l0.map toV) c0 A1 (l1.map toV) c1 w (C_toV hr0) (by simpa using hc0) (C_toV hr1) (by simpa using hc1)
  rw [List.length_map, List.length_map] at this
  exact this
end Go.Proofs.YtihdlalbgdighaaDoor.QV
/- exec.Join: rows put together where two columns are equal: what its iterator gives. -/
namespace Go.Proofs.YtihdlalbgdighaaDoor.QV
open Go.RowKit Go.Proofs.YtihdlalbgdighaaDoorW.PrintWords Go.Proofs.YtihdlalbgdighaaDoor.Seq Go.Shelf Go.Proofs.YtihdlalbgdighaaDoor.Op
set_option linter.unusedVariables false
set_option maxRecDepth 100000
set_option linter.unusedSimpArgs false
attribute [local go_sem] Oper.semAt_some
abbrev V' : Type := S61
abbrev zV : V' := z61

def atS (l : Row) (n : Int) : V' := if n < 0 then ⟨0, false, 0, ⟨#[]⟩⟩ else if n ≥ (l.length : Int) then ⟨0, false, 0, ⟨#[]⟩⟩ else l.getD n.toNat zV
theorem at_f (l : Row) (n : Int) : exec_at.f l n = some ((atS l n).f0, (atS l n).f1, (atS l n).f2, (atS l n).f3) := by
  unfold exec_at.f atS value_Null.f
  by_cases h1 : n < 0
  · rw [if_pos h1, if_pos h1]; rfl
  · by_cases h2 : n ≥ (l.length : Int)
    · rw [if_neg h1, if_neg h1, if_pos h2, if_pos h2]; rfl
    · rw [if_neg h1, if_neg h1, if_neg h2, if_neg h2, if_pos (by omega), if_pos (by omega)]; rfl
/-- An iterator's value: what it gives, and how that is read. -/
def IsSeq (w : World) (sv : Value) (xs : List Row) : Prop := ∃ g lb, ∃ Rd : World → (Nat → Prop) → Row → Array Value → Prop, sv = .func (.func g) #[] lb ∧ (∀ args w, (callFunc g args).run Tryd.prog w = .ok (.enter g args) w) ∧ SeqOf Tryd.prog g lb Rd xs w ∧
  (∀ A B N x vs, Rd A N x vs → Kpt (fun i => w.heap.size ≤ i ∧ ¬ N i) A B → Rd B N x vs) ∧ (∀ A N x vs, Rd A N x vs → ∃ Ad c, vs = #[.slice Ad x.length c] ∧ x.length ≤ c ∧ kS.C A Ad x.length x)
theorem IsSeq.later {w w' : World} {sv : Value} {xs : List Row} (h : IsSeq w sv xs) (hb : Below w.heap.size w w') : IsSeq w' sv xs := by
  obtain ⟨g, lb, Rd, h1, h2, h3, h4, h5⟩ := h
  exact ⟨g, lb, Rd, h1, h2, h3.later hb, fun A B N x vs hr hk => h4 A B N x vs hr (hk.mono (fun i _ h => ⟨Nat.le_trans hb.size h.1, h.2⟩)), h5⟩
theorem RdNew.reads {w0 A : World} {N : Nat → Prop} {x : Row} {vs : Array Value} (h : RdNew w0 A N x vs) : ∃ Ad c, vs = #[.slice Ad x.length c] ∧ x.length ≤ c ∧ kS.C A Ad x.length x := by
  obtain ⟨v, rfl, hr, _⟩ := h
  obtain ⟨A1, c, rfl, hl, hC⟩ := Kd.R_reads hr
  exact ⟨A1, c, rfl, hl, hC⟩

def nzB (ro : Int) (b : Row) : Bool := (atS b ro).f0 != 0
def hitB (a : Row) (lo ro : Int) (b : Row) : Bool := decide (cmpV (toV (atS a lo)) (toV (atS b ro)) = 0)
def joinOne (lo ro : Int) (all : List Row) (a : Row) : List Row := if (atS a lo).f0 = 0 then [] else (all.filter (hitB a lo ro)).map (a ++ ·)
def joinL (left right : List Row) (lo ro : Int) : List Row := left.flatMap (joinOne lo ro (right.filter (nzB ro)))

theorem filter_snoc {α : Type} (p : α → Bool) (l : List α) (x : α) : (l ++ [x]).filter p = if p x = true then l.filter p ++ [x] else l.filter p := by
  rw [List.filter_append, List.filter_cons]
  split <;> simp

theorem joinL_snoc (pre right : List Row) (x : Row) (lo ro : Int) : joinL (pre ++ [x]) right lo ro = joinL pre right lo ro ++ joinOne lo ro (right.filter (nzB ro)) x := by
  simp [joinL]
theorem joinL_prefix {left right : List Row} {pre : List Row} {x : Row} {lo ro : Int} {l : List Row} (h : (pre ++ [x]) <+: left) (hl : l <+: joinOne lo ro (right.filter (nzB ro)) x) : (joinL pre right lo ro ++ l) <+: joinL left right lo ro := by
  obtain ⟨t, rfl⟩ := h
  obtain ⟨u, hu⟩ := hl
  have : joinL (pre ++ [x] ++ t) right lo ro = joinL (pre ++ [x]) right lo ro ++ joinL t right lo ro := by simp [joinL]
  rw [this, joinL_snoc, ← hu]
  exact ⟨u ++ joinL t right lo ro, by simp [List.append_assoc]⟩
theorem kind_of (a b c d : Value) (w : World) : Sem.run Tryd.prog (Instr.field 61 (.agg #[a, b, c, d]) 0) w = .ok a w := by
  kernel_rfl

set_option maxRecDepth 100000 in
set_option maxHeartbeats 4000000 in
theorem join_seq (left right : List Row) (lo ro : Int) (svL svR : Value) (b1 b2 b3 b4 : Nat) (w : World) (hL : IsSeq w svL left) (hR : IsSeq w svR right)
    (h1 : w.cell? ⟨b1, 0, none⟩ = some svR) (h2 : w.cell? ⟨b2, 0, none⟩ = some (.int .i64 ro)) (h3 : w.cell? ⟨b3, 0, none⟩ = some svL) (h4 : w.cell? ⟨b4, 0, none⟩ = some (.int .i64 lo))
    (hbR : ∀ x ∈ right, x.length ≤ 1048576) (hbL : ∀ x ∈ left, x.length ≤ 1048576) (hnR : right.length ≤ 1048576) :
    SeqOf Tryd.prog 46 #[.pointer (some ⟨b1, 0, none⟩), .pointer (some ⟨b2, 0, none⟩), .pointer (some ⟨b3, 0, none⟩), .pointer (some ⟨b4, 0, none⟩)] (RdNew w) (joinL left right lo ro) w := by
  intro l J Jx W Mc hW hMc hJ hJx hY h0
  have hzw : w.heap.size ≤ W.heap.size := hW.size
  obtain ⟨gR, lbR, RdR, rfl, egR, hsR, hkR, hrR⟩ := hR
  obtain ⟨gL, lbL, RdL, rfl, egL, hsL, hkL, hrL⟩ := hL
  refine (callsIn_wide (n := 0)).1 (callsIn_of_wp_marks Tryd.func46 rfl trivial ?_ rfl)
  simp only [Tryd.ntmps46, List.size_toArray, List.length_cons, List.length_nil, Nat.reduceAdd, Nat.reduceSub, Array.replicate_succ, Array.replicate_zero, List.push_toArray, List.append_toArray, List.nil_append, List.cons_append]
  gi_wp2
  have d1 : ((W.alloc (.cells #[.func (.yield l) #[] #[]] 102)).alloc (.cells #[.slice none 0 0] 28)).cell? ⟨b1, 0, none⟩ = some (.func (.func gR) #[] lbR) := pw_cell_below (hW.trans ((below_alloc (below_alloc (Below.refl _ _) _) _).mono hzw)) h1
  refine wpIn_scope ?_
  gi_wp2
  obtain ⟨W1, hW1⟩ : ∃ W1, (W.alloc (.cells #[.func (.yield l) #[] #[]] 102)).alloc (.cells #[.slice none 0 0] 28) = W1 := ⟨_, rfl⟩
  have hbW1 : Below W.heap.size W W1 := by rw [← hW1]; exact below_alloc (below_alloc (Below.refl _ _) _) _
  have hszW1 : W1.heap.size = W.heap.size + 2 := by rw [← hW1]; simp
  have hx5 : W1.heap[W.heap.size]? = some (.cells #[.func (.yield l) #[] #[]] 102 (0, 0)) := by rw [← hW1]; exact blk_alloc (blk_new _ _) _
  have hx6 : W1.heap[W.heap.size + 1]? = some (.cells #[.slice none 0 0] 28 (0, 0)) := by rw [← hW1]; have := blk_new (W.alloc (.cells #[.func (.yield l) #[] #[]] 102)) (.cells #[.slice none 0 0] 28); rwa [World.size_alloc] at this
  rw [hW1]
  refine wpIn_range (gf := gR) (lb := lbR) rfl egR hsR (hW.trans (hbW1.mono hzw)) (fun A N x vs h => by obtain ⟨Ad, c, rfl, _⟩ := hrR _ _ _ _ h; rfl) hkR
    (fun pre M A => AllI (W.heap.size + 1) W.heap.size (pre.filter (nzB ro)) M A ∧ Below W.heap.size W A ∧ ∀ i, M i → W.heap.size ≤ i) (fun _ _ _ _ => False) (fun pre M A B h hk => ⟨h.1.kept hk, h.2.1.trans (hk.below h.2.1.size (fun i _ k => by omega)), h.2.2⟩) (fun _ _ _ _ _ h _ => h)
    (fun i => i = W.heap.size + 1) ?hM1 ?h01 (fun x vs a₁ M A => ∃ v, vs = #[v] ∧ a₁ = { tmps := #[.func (.yield l) #[] #[], .pointer (some ⟨b1, 0, none⟩), .pointer (some ⟨b2, 0, none⟩), .pointer (some ⟨b3, 0, none⟩), .pointer (some ⟨b4, 0, none⟩), .pointer (some ⟨W.heap.size, 0, none⟩), .pointer (some ⟨W.heap.size + 1, 0, none⟩), v, undef, undef, undef, undef, .func (.func gR) #[] lbR, v] ++ Array.replicate 40 undef, defers := [] })
    (fun _ _ _ _ _ _ h _ => h) ?assign1 ?body1 ?done1 ?stop1
  case hM1 => intro i hi; subst hi; omega
  case h01 => exact ⟨⟨rfl, _, hx6, Kd.S_nil _ _ _ _ _⟩, hbW1, fun i hi => by omega⟩
  case stop1 =>
    intro D c pre W M' hpre h
    exact h.elim
  case assign1 =>
    intro l2 pre x vs N A M hI hpre hrd hM hN
    obtain ⟨Ad, c, rfl, hle, hC⟩ := hrR _ _ _ _ hrd
    gi_wp2
    refine ⟨M, fun i hi => ⟨.inl hi, (hM i hi).2⟩, Kpt.refl _ _, hI, _, rfl, ?_⟩
    simp only [List.size_toArray, List.length_cons, List.length_nil, Nat.reduceAdd, Nat.reduceSub, Array.replicate_succ, Array.replicate_zero, List.push_toArray, List.append_toArray, List.nil_append, List.cons_append]
  case body1 =>
    intro l2 pre x vs N A M a₁ hI hpre hrd hax hM hN
    obtain ⟨v, rfl, rfl⟩ := hax
    simp only [List.size_toArray, List.length_cons, List.length_nil, Nat.reduceAdd, Nat.reduceSub, Array.replicate_succ, Array.replicate_zero, List.push_toArray, List.append_toArray, List.nil_append, List.cons_append]
    obtain ⟨⟨hMB, vl, hbx, hS⟩, hBW, hMW⟩ := hI
    obtain ⟨Ad, c, hvv, hle, hC⟩ := hrR _ _ _ _ hrd
    obtain rfl : v = .slice Ad x.length c := by simpa using hvv
    clear hvv
    have hx1 := hbR x (hpre.subset (by simp))
    have hlen : pre.length + 1 ≤ right.length := by have := hpre.length_le; simpa using this
    have hlenF : (pre.filter (nzB ro)).length ≤ pre.length := List.length_filter_le _ _
    have d2 : A.cell? ⟨b2, 0, none⟩ = some (.int .i64 ro) := pw_cell_below (hW.trans (hBW.mono hzw)) h2
    have hzA : W.heap.size + 1 < A.heap.size := blk_lt hbx
    have ha := at_f x ro
    have hfs := filter_snoc (nzB ro) pre x
    have hnz : nzB ro x = ((atS x ro).f0 != 0) := rfl
    generalize (atS x ro).f0 = q0, (atS x ro).f1 = q1, (atS x ro).f2 = q2, (atS x ro).f3 = q3 at ha hnz
    by_cases hz : q0 = 0
    · subst hz
      gi_wp2
      refine ⟨trivial, rfl, calls_in _ _ ((exec_at.calls Ad c x ro _ _ _ _ A hC hle ha).mono ?_)⟩
      rintro e W2 ⟨rfl, hb1⟩
      gi_wp2
      simp only [kind_of]
      go_simp
      gi_wp2
      refine ⟨M, fun i hi => ⟨.inl hi, Nat.lt_of_lt_of_le (hM i hi).2 hb1.size⟩, Kpt.of_new _ hb1, ?_⟩
      show AllI _ _ ((pre ++ [x]).filter (nzB ro)) M W2 ∧ _
      rw [hfs, hnz]
      exact ⟨AllI.kept (q := fun _ => True) ⟨hMB, vl, hbx, hS⟩ (Kpt.of_new _ hb1), hBW.trans (hb1.mono (by omega)), hMW⟩
    · gi_wp2
      refine ⟨trivial, rfl, calls_in _ _ ((exec_at.calls Ad c x ro _ _ _ _ A hC hle ha).mono ?_)⟩
      rintro e W2 ⟨rfl, hb1⟩
      gi_wp2
      simp only [kind_of]
      go_simp
      gi_wp2
      have hb1A := hb1
      have hbx1 := blk_below hbx hb1A
      have c0 : W2.drew.cell? ⟨W.heap.size + 1, 0, none⟩ = some vl := blk_cell hbx1 0
      have f0 : W2.drew.frozen? ⟨W.heap.size + 1, 0, none⟩ = false := blk_frozen hbx1 0
      refine wpIn_region_R 5 (S := fun W' => W'.cell? ⟨W.heap.size + 1, 0, none⟩ = some vl ∧ W'.frozen? ⟨W.heap.size + 1, 0, none⟩ = false) (by kernel_rfl) ⟨c0, f0⟩ (fun hS0 => ?_)
      refine wpAnyR_take (i := 0) (oi := ⟨some 19, _, _, _, _, _⟩) (v := ?_) (by kernel_rfl) (by kernel_rfl) rfl (by kernel_rfl) (by kernel_rfl) (by kernel_rfl) (fun _ _ _ h => h) (Or.inl ⟨by rfl, ?_⟩) (by assumption) ?_
      rotate_left
      · intro w hSw; (try dsimp only at hSw); (try go_split_ands); go_simp; (try (with_reducible rfl))
      (try simp only [Act.put, List.setIfInBounds_toArray, List.set_cons_zero, List.set_cons_succ])
      refine wpAnyR_take (i := 1) (oi := ⟨some 20, _, _, _, _, _⟩) (v := ?_) (by kernel_rfl) (by kernel_rfl) rfl (by kernel_rfl) (by kernel_rfl) (by kernel_rfl) (fun _ _ _ h => h) (Or.inl ⟨by rfl, ?_⟩) (by assumption) ?_
      rotate_left
      · intro w hSw; (try dsimp only at hSw); (try go_split_ands); go_simp; (try (with_reducible rfl))
      (try simp only [Act.put, List.setIfInBounds_toArray, List.set_cons_zero, List.set_cons_succ])
      refine wpAnyR_one (i := 2) (o := ⟨some 21, _, _, _, _, _⟩) (by kernel_rfl) (by kernel_rfl) rfl (fun K hK => ?_)
      go_simp
      refine (clone_any Ad x c W2.drew (Kd.C_below (Kd.C_below hC hb1) (below_drew (Below.refl _ _))) hle (by omega)).mono ?_
      rintro e W3 ⟨v1, rfl, hR1, hb3⟩
      have hb3A : Below A.heap.size A W3 := hb1.trans (((below_drew (Below.refl _ W2)).trans hb3).mono hb1.size)
      have hbx3 := blk_below hbx hb3A
      (try dsimp only)
      refine hK.out _ _ (.inr ⟨blk_cell hbx3 0, blk_frozen hbx3 0⟩) ?_
      clear hK K
      (try simp only [Act.put, List.setIfInBounds_toArray, List.set_cons_zero, List.set_cons_succ])
      obtain ⟨A1, c1, rfl, hle1, hC1⟩ := Kd.R_reads hR1
      refine wpAnyR_one (i := 3) (o := ⟨some 22, _, _, _, _, _⟩) (by kernel_rfl) (by kernel_rfl) rfl (fun K hK => ?_)
      go_simp
      refine hK.out _ _ (.inr ⟨blk_cell (blk_alloc hbx3 _) 0, blk_frozen (blk_alloc hbx3 _) 0⟩) ?_
      clear hK K
      (try simp only [Act.put, List.setIfInBounds_toArray, List.set_cons_zero, List.set_cons_succ])
      refine wpAnyR_one (i := 4) (o := ⟨some 23, _, _, _, _, _⟩) (by kernel_rfl) (by kernel_rfl) rfl (fun K hK => ?_)
      have hzA3 : A.heap.size ≤ W3.heap.size := hb3A.size
      have hzA2 : A.heap.size ≤ W2.heap.size := hb1.size
      refine Kd.S_append_step kRows (w0 := A) W.heap.size (by rfl) (.tmp 19) (.tmp 22) 28 62 _ 24 rfl Tryd.underlying28 infoRow rfl (by decide) (by decide) vl (pre.filter (nzB ro)) x [.slice A1 x.length c1]
        (fun k => (M k ∧ k ≠ W.heap.size + 1) ∨ A.heap.size ≤ k) (fun k => (Value.slice A1 x.length c1).ownBlock = some k) rfl rfl ⟨_, rfl, RS_ok (Kd.R_lower hR1 (by show W.heap.size ≤ W2.heap.size; omega)) (fun _ h => h)⟩ ?_ (fun k hk => .inr (by omega)) ?_ (hb3A.mono (by omega)) (by omega) (by omega) ?_
      · intro k hk
        have := Kd.R_base hR1 k hk
        exact ⟨.inr (Nat.le_trans hzA2 this), fun e => by have h2 := Kd.S_lt hS k e.symm; exact absurd this (by show ¬ W2.heap.size ≤ k; omega)⟩
      · refine Kd.S_mono (Kd.S_below (Kd.S_bound hS) hb3A) (fun k hk => ⟨.inl hk.1, fun h => ?_⟩)
        have := Kd.R_base hR1 k h
        exact absurd this (by show ¬ W2.heap.size ≤ k; have := hk.2.2.1; omega)
      intro v2 W4 hS2 hB2 hg2 hat2
      have hlapp : (pre.filter (nzB ro) ++ [x]).length = (pre.filter (nzB ro)).length + 1 := by simp
      obtain ⟨g2, cap2, rfl, hg2b, hg2l, cells2, hcells2⟩ := Kd.S_form hS2 (by omega)
      rw [hlapp] at hS2
      have hbx4 := blk_grown hbx3 hg2 (Kd.S_away hS (fun k hk => hk.2))
      refine hK.out _ _ (.inr ⟨blk_cell hbx4 0, blk_frozen hbx4 0⟩) ?_
      clear hK K
      (try simp only [Act.put, List.setIfInBounds_toArray, List.set_cons_zero, List.set_cons_succ])
      have hc4 : W4.cell? ⟨W.heap.size + 1, 0, none⟩ = some vl := blk_cell hbx4 0
      have hf4 : W4.frozen? ⟨W.heap.size + 1, 0, none⟩ = false := blk_frozen hbx4 0
      refine wpAnyR_one (i := 5) (o := ⟨none, _, _, _, _, _⟩) (by kernel_rfl) (by kernel_rfl) rfl (fun K hK => ?_)
      go_simp
      refine hK.out _ _ (.inl rfl) ?_
      clear hK K
      (try simp only [Act.put, List.setIfInBounds_toArray, List.set_cons_zero, List.set_cons_succ])
      refine wpAnyR_done (by kernel_rfl) ?_ _
      gi_wp2
      have hzA4 : W3.heap.size ≤ W4.heap.size := hg2.size
      obtain ⟨W5, hW5⟩ : ∃ W5, W4.setCell ⟨W.heap.size + 1, 0, none⟩ (.slice (some ⟨g2, 0, none⟩) ((pre.filter (nzB ro)).length + 1) cap2) = W5 := ⟨_, rfl⟩
      rw [hW5]
      have hk5 : Kpt (fun i => i = W.heap.size + 1) W4 W5 := by rw [← hW5]; exact Kpt.setCell W4 ⟨W.heap.size + 1, 0, none⟩ _
      have hbx5 : W5.heap[W.heap.size + 1]? = some (.cells #[.slice (some ⟨g2, 0, none⟩) ((pre.filter (nzB ro)).length + 1) cap2] 28 (0, 0)) := by rw [← hW5]; exact blk_set hbx4 0 _
      have hS5 : Kd.S kRows tRow W5 W.heap.size (fun k => ((M k ∧ k ≠ W.heap.size + 1) ∨ A.heap.size ≤ k) ∧ k < W5.heap.size) (.slice (some ⟨g2, 0, none⟩) ((pre.filter (nzB ro)).length + 1) cap2) (pre.filter (nzB ro) ++ [x]) := by
        have h3 : Kd.S kRows tRow W5 W.heap.size (fun k => (M k ∧ k ≠ W.heap.size + 1) ∨ A.heap.size ≤ k) (.slice (some ⟨g2, 0, none⟩) ((pre.filter (nzB ro)).length + 1) cap2) (pre.filter (nzB ro) ++ [x]) := by
          rw [← hW5]
          exact Kd.S_far (p := ⟨W.heap.size + 1, 0, none⟩) hS2 (fun k hk => by rcases hk with hk | hk; exact hk.2; show k ≠ W.heap.size + 1; omega) _
        exact Kd.S_mono (Kd.S_bound h3) (fun k hk => ⟨hk.1, hk.2.2.1⟩)
      have hKA5 : Kpt M A W5 := by
        refine ((Kpt.of_new M hb3A).trans (Kpt.grown hg2) (M := M) (fun i hi h => ?_)).trans hk5 (fun i hi h => ?_)
        · rcases h with h | h
          · exact h
          · exact ((Kd.S_R hS).1 i h.symm).1
        · rcases h with h | h
          · exact h
          · rw [h]; exact hMB
      have hz5 := hKA5.size
      refine ⟨fun i => (M i ∨ A.heap.size ≤ i) ∧ i < W5.heap.size, fun i hi => ⟨by rcases hi.1 with h | h; exact .inl h; exact .inr (.inr h), hi.2⟩, hKA5.mono (fun _ _ h => .inl h), ?_⟩
      show AllI _ _ ((pre ++ [x]).filter (nzB ro)) _ W5 ∧ _
      rw [hfs, hnz, if_pos (by simpa using hz)]
      refine ⟨⟨⟨.inl hMB, by omega⟩, _, hbx5, ?_⟩, ?_⟩
      · refine Kd.S_mono hS5 (fun k hk' => ?_)
        have hlt' := hk'.2
        rcases hk'.1 with h | h
        · exact ⟨⟨.inl h.1, by omega⟩, h.2⟩
        · exact ⟨⟨.inr h, by omega⟩, by omega⟩
      · refine ⟨hBW.trans (hKA5.below hBW.size (fun i _ h => hMW i h)), fun i hi => ?_⟩
        rcases hi.1 with h | h
        · exact hMW i h
        · omega
  case done1 =>
    intro D W2 M' hI hk hM' hD hDw hDM
    obtain ⟨⟨hMB, vl, hbx, hS⟩, hBW, hMW⟩ := hI
    have hbwW2 : Below w.heap.size w W2 := hW.trans (hBW.mono hzw)
    have d3 : W2.cell? ⟨b3, 0, none⟩ = some (.func (.func gL) #[] lbL) := pw_cell_below hbwW2 h3
    have hzW2 : W.heap.size ≤ W2.heap.size := hBW.size
    have hKc : Kpt Mc W W2 := (Kpt.of_new _ hBW)
    gi_wp2
    refine wpIn_label ?_
    gi_wp2
    refine wpIn_range (gf := gL) (lb := lbL) rfl egL hsL hbwW2 (fun A N x vs h => by obtain ⟨Ad, c, rfl, _⟩ := hrL _ _ _ _ h; rfl) hkL
      (fun pre => J2 J Mc W W2 (joinL pre right lo ro)) (fun c pre Mh A => c = .exit 2 ∧ ∃ y, y <+: joinL left right lo ro ∧ J2 Jx Mc W W2 y Mh A) (fun pre M A B h hk => h.kept hJ hzW2 hk) (fun c pre M A B h hk => by obtain ⟨e, y, hy, h⟩ := h; exact ⟨e, y, hy, h.kept hJx hzW2 hk⟩)
      (fun i => Mc i ∨ (W.heap.size ≤ i ∧ i < W2.heap.size)) ?hM2 ?h02 (fun x vs a₁ M A => ∃ v, vs = #[v] ∧ a₁ = { tmps := #[.func (.yield l) #[] #[], .pointer (some ⟨b1, 0, none⟩), .pointer (some ⟨b2, 0, none⟩), .pointer (some ⟨b3, 0, none⟩), .pointer (some ⟨b4, 0, none⟩), .pointer (some ⟨W.heap.size, 0, none⟩), .pointer (some ⟨W.heap.size + 1, 0, none⟩), undef, v, undef, undef, undef, .func (.func gR) #[] lbR, undef, undef, undef, undef, undef, undef, undef, undef, undef, undef, undef, .func (.func gL) #[] lbL, v] ++ Array.replicate 28 undef, defers := [] })
      (fun _ _ _ _ _ _ h _ => h) ?assign2 ?body2 ?done2 ?stop2
    case hM2 => intro i hi; rcases hi with h | h; have := hMc i h; omega; omega
    case h02 => exact ⟨Mc, hJ _ _ _ _ h0 (Kpt.of_new _ hBW), fun i => Iff.rfl, fun i hi => ⟨.inl hi, by have := hMc i hi; omega⟩, Kpt.refl _ _⟩
    case assign2 =>
      intro l2 pre x vs N A M hI hpre hrd hM hN
      obtain ⟨Ad, c, rfl, hle, hC⟩ := hrL _ _ _ _ hrd
      gi_wp2
      refine ⟨M, fun i hi => ⟨.inl hi, (hM i hi).2⟩, Kpt.refl _ _, hI, _, rfl, ?_⟩
      simp only [List.size_toArray, List.length_cons, List.length_nil, Nat.reduceAdd, Nat.reduceSub, Array.replicate_succ, Array.replicate_zero, List.push_toArray, List.append_toArray, List.nil_append, List.cons_append]
    case body2 =>
      intro l2 pre x vs N A Mh a₁ hI hpre hrd hax hM hN
      obtain ⟨v, rfl, rfl⟩ := hax
      simp only [List.size_toArray, List.length_cons, List.length_nil, Nat.reduceAdd, Nat.reduceSub, Array.replicate_succ, Array.replicate_zero, List.push_toArray, List.append_toArray, List.nil_append, List.cons_append]
      obtain ⟨Mj, hJ0, hMh, hMj, hKA⟩ := hI
      obtain ⟨Ad, c, hvv, hle, hC⟩ := hrL _ _ _ _ hrd
      obtain rfl : v = .slice Ad x.length c := by simpa using hvv
      clear hvv
      have hx1 := hbL x (hpre.subset (by simp))
      have hbA : Below w.heap.size w A := hbwW2.trans (hKA.below hbwW2.size (fun i _ h => (hMc i h).1))
      have d4 : A.cell? ⟨b4, 0, none⟩ = some (.int .i64 lo) := pw_cell_below hbA h4
      have hsn := joinL_snoc pre right x lo ro
      have hjp := fun l => joinL_prefix (left := left) (right := right) (lo := lo) (ro := ro) (l := l) hpre
      generalize hF : right.filter (nzB ro) = F at *
      have ha := at_f x lo
      obtain ⟨va, hva⟩ : ∃ va, atS x lo = va := ⟨_, rfl⟩
      have hjo : joinOne lo ro F x = if va.f0 = 0 then [] else (F.filter (hitB x lo ro)).map (x ++ ·) := by rw [joinOne, hva]
      have hhit : ∀ b, hitB x lo ro b = decide (cmpV (toV va) (toV (atS b ro)) = 0) := fun b => by rw [hitB, hva]
      rw [hva] at ha
      clear hva
      obtain ⟨q0, q1, q2, q3⟩ := va
      simp only at ha hjo
      by_cases hz : q0 = 0
      · subst hz
        gi_wp2
        refine ⟨trivial, rfl, calls_in _ _ ((exec_at.calls Ad c x lo _ _ _ _ A hC hle ha).mono ?_)⟩
        rintro e W4 ⟨rfl, hb4⟩
        gi_wp2
        obtain ⟨W5, hW5⟩ : ∃ W5, W4.alloc (.cells #[.int .i64 0, .bool q1, .int .i64 q2, .string q3] 61) = W5 := ⟨_, rfl⟩
        rw [hW5]
        have hb5 : Below A.heap.size A W5 := by rw [← hW5]; exact below_alloc hb4 _
        have hj2 : J2 J Mc W W2 (joinL pre right lo ro) Mh W5 := J2.kept hJ hzW2 ⟨Mj, hJ0, hMh, hMj, hKA⟩ (Kpt.of_new _ hb5)
        refine ⟨Mh, fun i hi => ⟨.inl hi, Nat.lt_of_lt_of_le (hM i hi).2 hb5.size⟩, Kpt.of_new _ hb5, ?_⟩
        show J2 J Mc W W2 (joinL (pre ++ [x]) right lo ro) Mh W5
        rw [hsn, hjo, if_pos trivial, List.append_nil]
        exact hj2
      · obtain ⟨Ag, cg, rfl⟩ := Kd.S_slice hS
        gi_wp2
        refine ⟨trivial, rfl, calls_in _ _ ((exec_at.calls Ad c x lo _ _ _ _ A hC hle ha).mono ?_)⟩
        rintro e W4 ⟨rfl, hb4⟩
        have hbxA : A.heap[W.heap.size + 1]? = some (.cells #[.slice Ag F.length cg] 28 (0, 0)) := hKA.at hbx (fun h => by have := (hMc _ h).2; omega)
        have d6 : (W4.alloc (.cells #[.int .i64 q0, .bool q1, .int .i64 q2, .string q3] 61)).cell? ⟨W.heap.size + 1, 0, none⟩ = some (.slice Ag F.length cg) := blk_cell (blk_alloc (blk_below hbxA hb4) _) 0
        gi_wp2
        obtain ⟨W5, hW5⟩ : ∃ W5, W4.alloc (.cells #[.int .i64 q0, .bool q1, .int .i64 q2, .string q3] 61) = W5 := ⟨_, rfl⟩
        rw [hW5]
        have hb5 : Below A.heap.size A W5 := by rw [← hW5]; exact below_alloc hb4 _
        have hx9 : W5.heap[W4.heap.size]? = some (.cells #[.int .i64 q0, .bool q1, .int .i64 q2, .string q3] 61 (0, 0)) := by rw [← hW5]; exact blk_new _ _
        have hsz5 : W5.heap.size = W4.heap.size + 1 := by rw [← hW5]; simp
        have hz4 : A.heap.size ≤ W4.heap.size := hb4.size
        have hzA : W2.heap.size ≤ A.heap.size := hKA.size
        have hj5 : J (joinL pre right lo ro) Mj W5 := hJ _ _ _ _ hJ0 (Kpt.of_new _ hb5)
        have hKW5 : Kpt Mc W2 W5 := hKA.trans (Kpt.of_new Mc hb5) (fun _ _ h => h.elim id id)
        have hjn : joinOne lo ro F x = (F.filter (hitB x lo ro)).map (x ++ ·) := by rw [hjo, if_neg hz]
        have hMcW : ∀ i, Mc i → i < W.heap.size := fun i h => (hMc i h).2
        have hx5' : W5.heap[W.heap.size]? = some (.cells #[.func (.yield l) #[] #[]] 102 (0, 0)) := hKW5.at (hk.at hx5 (by omega)) (fun h => by have := hMcW _ h; omega)
        have hzW : W.heap.size < W2.heap.size := by have := hk.size; omega
        clear hW5 d6 hjo
        have hmF : ∀ b ∈ F, b.length ≤ 1048576 := by rw [← hF]; intro b hb; exact hbR b (List.mem_filter.1 hb).1
        have fin : ∀ (JJ : List Row → (Nat → Prop) → World → Prop) (y : List Row) (Mk : Nat → Prop) (B : World), JJ y Mk B → (∀ i, Mk i → (Mj i ∨ W5.heap.size ≤ i) ∧ i < B.heap.size) → Kpt Mj W5 B →
            ∃ M', (∀ i, M' i → (Mh i ∨ N i ∨ A.heap.size ≤ i) ∧ i < B.heap.size) ∧ Kpt (fun i => Mh i ∨ N i) A B ∧ J2 JJ Mc W W2 y M' B := by
          intro JJ y Mk B hJy hMk hkB
          have hsB := hkB.size
          refine ⟨fun i => Mk i ∨ (W.heap.size ≤ i ∧ i < W2.heap.size), fun i hi => ?_, (Kpt.of_new (fun i => Mh i ∨ N i) hb5).trans hkB (fun i _ h => ?_), Mk, hJy, fun i => Iff.rfl, fun i hi => ⟨?_, (hMk i hi).2⟩, hKW5.trans hkB (fun i hi h => ?_)⟩
          · rcases hi with h | h
            · refine ⟨?_, (hMk i h).2⟩
              rcases (hMk i h).1 with z | z
              · exact .inl ((hMh i).2 (.inl z))
              · exact .inr (.inr (by omega))
            · exact ⟨.inl ((hMh i).2 (.inr h)), by omega⟩
          · rcases h with h | h
            · exact h
            · exact .inl ((hMh i).2 (.inl h))
          · rcases (hMk i hi).1 with z | z
            · exact (hMj i z).1
            · exact .inr (by omega)
          · rcases h with h | h
            · exact h
            · rcases (hMj i h).1 with z | z
              · exact z
              · omega
        have hq0 : (q0 == 0) = false := by simpa using hz
        simp only [hq0]
        gi_loopw [34] (fun i wr => ∃ k : Nat, k ≤ F.length ∧ i = .int .i64 k ∧ ∃ Mk, J (joinL pre right lo ro ++ ((F.take k).filter (hitB x lo ro)).map (x ++ ·)) Mk wr ∧ (∀ i, Mk i → (Mj i ∨ W5.heap.size ≤ i) ∧ i < wr.heap.size) ∧ Kpt Mj W5 wr)
          (fun i _ => F.length - (intOf i).toNat)
        case atStart => exact ⟨0, Nat.zero_le _, rfl, Mj, by simpa using hj5, fun i hi => ⟨.inl hi, by have := (hMj i hi).2; omega⟩, Kpt.refl _ _⟩
        case round =>
          obtain ⟨k, hk', rfl, Mk, hJk, hMk, hkp⟩ := hrel
          by_cases hlt : k < F.length
          · have hKr : Kpt Mc W2 wr := hKW5.trans hkp (fun i hi h => by
              rcases h with h | h
              · exact h
              · rcases (hMj i h).1 with z | z
                · exact z
                · omega)
            have hSr : Kd.S kRows tRow wr W.heap.size (fun k => M' k ∧ k ≠ W.heap.size + 1) (.slice Ag F.length cg) F := Kd.S_step hS (fun k hk2 hlt2 => hKr.block k hlt2 (fun h => by have := hMcW _ h; have := hMW _ hk2.1; omega))
            have hr := (Kd.S_reads' hSr).2.2
            have hmax := hr.2.1
            obtain ⟨ad, cs, rfl, _, hK, hcs⟩ := Kd.C_get hr [] k (by omega) (by omega)
            obtain ⟨Ao, co, rfl, hleo, hCo⟩ := hK
            have hx : F.getD (k : Int).toNat [] = F.getD k [] := rfl
            rw [hx] at hleo hCo hcs
            have hc0 := hcs 0 _ rfl
            have hsz : kRows.sz = 1 := rfl
            rw [hsz, Int.toNat_natCast, Nat.mul_one, Nat.add_zero] at hc0
            have hts := take_snoc' ([] : Row) F k hlt
            have hob1 : (F.getD k []).length ≤ 1048576 := hmF _ (by rw [List.getD_eq_getElem?_getD, List.getElem?_eq_getElem hlt]; exact List.getElem_mem hlt)
            generalize F.getD k [] = ob at *
            have hbr : Below w.heap.size w wr := hbwW2.trans (hKr.below hbwW2.size (fun i _ h => (hMc i h).1))
            have d2 : wr.cell? ⟨b2, 0, none⟩ = some (.int .i64 ro) := pw_cell_below hbr h2
            have hMk9 : ∀ i, Mk i → i ≠ W4.heap.size ∧ i ≠ W.heap.size := fun i h => by
              rcases (hMk i h).1 with z | z
              · have h1 := (hMj i z).2
                rcases (hMj i z).1 with z | z
                · have := hMcW _ z; omega
                · omega
              · omega
            have h9 := hkp.at hx9 (fun h => by have := (hMj _ h).2; omega)
            have h5 := hkp.at hx5' (fun h => by rcases (hMj _ h).1 with z | z; have := hMcW _ z; omega; omega)
            have hCx : kS.C wr Ad x.length x := by
              have hk3 : Kpt (fun i => w.heap.size ≤ i ∧ ¬ N i) A wr := (Kpt.of_new _ hb5).trans hkp (fun i hi h => by
                rcases h with h | h
                · exact h
                · refine ⟨?_, fun z => (hN i z).2.2 ((hMh i).2 (.inl h))⟩
                  rcases (hMj i h).1 with z | z
                  · exact (hMc i z).1
                  · omega)
              obtain ⟨Ad', c', e, _, h⟩ := hrL _ _ _ _ (hkL _ _ _ _ _ hrd hk3)
              have e2 : Value.slice Ad x.length c = .slice Ad' x.length c' := by simpa using e
              injection e2 with e2 _ _
              rw [e2]; exact h
            have hb := at_f ob ro
            have hh0 : hitB x lo ro ob = true ↔ cmpV ⟨q0, q1, q2, q3⟩ (toV (atS ob ro)) = 0 := by rw [hhit ob]; exact decide_eq_true_iff
            generalize atS ob ro = vb at hb hh0
            obtain ⟨p0, p1, p2, p3⟩ := vb
            have hh : hitB x lo ro ob = true ↔ cmpV ⟨q0, q1, q2, q3⟩ ⟨p0, p1, p2, p3⟩ = 0 := hh0
            simp only at hb
            clear hh0
            obtain ⟨z, hcv⟩ : ∃ z, cmpV ⟨q0, q1, q2, q3⟩ ⟨p0, p1, p2, p3⟩ = z := ⟨_, rfl⟩
            rw [hcv] at hh
            have e0 : wr.drew.cell? ⟨W4.heap.size, 0, none⟩ = some (.int .i64 q0) := blk_cell h9 0
            have e1 : wr.drew.cell? ⟨W4.heap.size, 1, none⟩ = some (.bool q1) := blk_cell h9 1
            have e2 : wr.drew.cell? ⟨W4.heap.size, 2, none⟩ = some (.int .i64 q2) := blk_cell h9 2
            have e3 : wr.drew.cell? ⟨W4.heap.size, 3, none⟩ = some (.string q3) := blk_cell h9 3
            have e5 : wr.drew.cell? ⟨W.heap.size, 0, none⟩ = some (.func (.yield l) #[] #[]) := blk_cell h5 0
            have keep : ∀ V, Kpt (fun i => wr.heap.size ≤ i) wr V → V.cell? ⟨W4.heap.size, 0, none⟩ = some (.int .i64 q0) ∧ V.cell? ⟨W4.heap.size, 1, none⟩ = some (.bool q1) ∧ V.cell? ⟨W4.heap.size, 2, none⟩ = some (.int .i64 q2) ∧ V.cell? ⟨W4.heap.size, 3, none⟩ = some (.string q3) ∧ V.cell? ⟨W.heap.size, 0, none⟩ = some (.func (.yield l) #[] #[]) ∧ V.cell? ⟨b2, 0, none⟩ = some (.int .i64 ro) := by
              intro V hV
              have g9 := hV.at h9 (by have := blk_lt h9; omega)
              have g5 := hV.at h5 (by have := blk_lt h5; omega)
              have hVr : Below wr.heap.size wr V := hV.below (Nat.le_refl _) (fun _ _ h => h)
              exact ⟨blk_cell g9 0, blk_cell g9 1, blk_cell g9 2, blk_cell g9 3, blk_cell g5 0, pw_cell_below (hbr.trans (hVr.mono hbr.size)) h2⟩
            by_cases hcmp : z = 0
            · subst hcmp
              gi_wp2
              refine wpIn_region_R 15 (S := fun V => V.cell? ⟨W4.heap.size, 0, none⟩ = some (.int .i64 q0) ∧ V.cell? ⟨W4.heap.size, 1, none⟩ = some (.bool q1) ∧ V.cell? ⟨W4.heap.size, 2, none⟩ = some (.int .i64 q2) ∧ V.cell? ⟨W4.heap.size, 3, none⟩ = some (.string q3) ∧ V.cell? ⟨W.heap.size, 0, none⟩ = some (.func (.yield l) #[] #[]) ∧ V.cell? ⟨b2, 0, none⟩ = some (.int .i64 ro)) (by kernel_rfl) ⟨e0, e1, e2, e3, e5, d2⟩ (fun hS0 => ?_)
              refine wpAnyR_take (i := 0) (oi := ⟨some 38, _, _, _, _, _⟩) (v := ?_) (by kernel_rfl) (by kernel_rfl) rfl (by kernel_rfl) (by kernel_rfl) (by kernel_rfl) (fun _ _ _ h => h) (Or.inl ⟨by rfl, ?_⟩) (by assumption) ?_
              rotate_left
              · intro w hSw; (try dsimp only at hSw); (try go_split_ands); go_simp; (try (with_reducible rfl))
              (try simp only [Act.put, List.setIfInBounds_toArray, List.set_cons_zero, List.set_cons_succ])
              refine wpAnyR_take (i := 1) (oi := ⟨some 39, _, _, _, _, _⟩) (v := ?_) (by kernel_rfl) (by kernel_rfl) rfl (by kernel_rfl) (by kernel_rfl) (by kernel_rfl) (fun _ _ _ h => h) (Or.inl ⟨by rfl, ?_⟩) (by assumption) ?_
              rotate_left
              · intro w hSw; (try dsimp only at hSw); (try go_split_ands); go_simp; (try (with_reducible rfl))
              (try simp only [Act.put, List.setIfInBounds_toArray, List.set_cons_zero, List.set_cons_succ])
              refine wpAnyR_take (i := 2) (oi := ⟨some 40, _, _, _, _, _⟩) (v := ?_) (by kernel_rfl) (by kernel_rfl) rfl (by kernel_rfl) (by kernel_rfl) (by kernel_rfl) (fun _ _ _ h => h) (Or.inl ⟨by rfl, ?_⟩) (by assumption) ?_
              rotate_left
              · intro w hSw; (try dsimp only at hSw); (try go_split_ands); go_simp; (try (with_reducible rfl))
              (try simp only [Act.put, List.setIfInBounds_toArray, List.set_cons_zero, List.set_cons_succ])
              refine wpAnyR_one (i := 3) (o := ⟨some 41, _, _, _, _, _⟩) (by kernel_rfl) (by kernel_rfl) rfl (fun K hK => ?_)
              go_simp
              refine (exec_at.calls Ao co ob ro _ _ _ _ wr.drew (Kd.C_drew hCo) hleo hb).mono ?_
              rintro e W6 ⟨rfl, hb6⟩
              have hb6' : Below wr.heap.size wr W6 := (below_drew (Below.refl _ wr)).trans hb6
              have hS6 := keep W6 (Kpt.of_below hb6')
              (try dsimp only)
              refine hK.out _ _ (.inr hS6) ?_
              clear hK K
              (try simp only [Act.put, List.setIfInBounds_toArray, List.set_cons_zero, List.set_cons_succ])
              refine wpAnyR_one (i := 4) (o := ⟨some 42, _, _, _, _, _⟩) (by kernel_rfl) (by kernel_rfl) rfl (fun K hK => ?_)
              go_simp
              refine (value_Compare.calls q0 q1 q2 q3 p0 p1 p2 p3 _ W6 (by rw [value_Compare.f, hcv])).mono ?_
              rintro e W7 ⟨rfl, hb7⟩
              have hb7' : Below wr.heap.size wr W7 := hb6'.trans (hb7.mono hb6'.size)
              have hS7 := keep W7 (Kpt.of_below hb7')
              (try dsimp only)
              refine hK.out _ _ (.inr hS7) ?_
              clear hK K
              (try simp only [Act.put, List.setIfInBounds_toArray, List.set_cons_zero, List.set_cons_succ])
              refine wpAnyR_take (i := 5) (oi := ⟨some 43, _, _, _, _, _⟩) (v := ?_) (by kernel_rfl) (by kernel_rfl) rfl (by kernel_rfl) (by kernel_rfl) (by kernel_rfl) (fun _ _ _ h => h) (Or.inl ⟨by rfl, ?_⟩) (by assumption) ?_
              rotate_left
              · intro w hSw; (try dsimp only at hSw); (try go_split_ands); go_simp; (try (with_reducible rfl))
              (try simp only [Act.put, List.setIfInBounds_toArray, List.set_cons_zero, List.set_cons_succ])
              refine wpAnyR_take (i := 6) (oi := ⟨some 44, _, _, _, _, _⟩) (v := ?_) (by kernel_rfl) (by kernel_rfl) rfl (by kernel_rfl) (by kernel_rfl) (by kernel_rfl) (fun _ _ _ h => h) (Or.inl ⟨by rfl, ?_⟩) (by assumption) ?_
              rotate_left
              · intro w hSw; (try dsimp only at hSw); (try go_split_ands); go_simp; (try (with_reducible rfl))
              (try simp only [Act.put, List.setIfInBounds_toArray, List.set_cons_zero, List.set_cons_succ])
              refine wpAnyR_take (i := 7) (oi := ⟨some 45, _, _, _, _, _⟩) (v := ?_) (by kernel_rfl) (by kernel_rfl) rfl (by kernel_rfl) (by kernel_rfl) (by kernel_rfl) (fun _ _ _ h => h) (Or.inl ⟨by rfl, ?_⟩) (by assumption) ?_
              rotate_left
              · intro w hSw; (try dsimp only at hSw); (try go_split_ands); go_simp; (try (with_reducible rfl))
              (try simp only [Act.put, List.setIfInBounds_toArray, List.set_cons_zero, List.set_cons_succ])
              refine wpAnyR_take (i := 8) (oi := ⟨some 46, _, _, _, _, _⟩) (v := ?_) (by kernel_rfl) (by kernel_rfl) rfl (by kernel_rfl) (by kernel_rfl) (by kernel_rfl) (fun _ _ _ h => h) (Or.inl ⟨by rfl, ?_⟩) (by assumption) ?_
              rotate_left
              · intro w hSw; (try dsimp only at hSw); (try go_split_ands); go_simp; (try (with_reducible rfl))
              (try simp only [Act.put, List.setIfInBounds_toArray, List.set_cons_zero, List.set_cons_succ])
              refine wpAnyR_take (i := 9) (oi := ⟨some 47, _, _, _, _, _⟩) (v := ?_) (by kernel_rfl) (by kernel_rfl) rfl (by kernel_rfl) (by kernel_rfl) (by kernel_rfl) (fun _ _ _ h => h) (Or.inl ⟨by rfl, ?_⟩) (by assumption) ?_
              rotate_left
              · intro w hSw; (try dsimp only at hSw); (try go_split_ands); go_simp; (try (with_reducible rfl))
              (try simp only [Act.put, List.setIfInBounds_toArray, List.set_cons_zero, List.set_cons_succ])
              refine wpAnyR_one (i := 10) (o := ⟨some 48, _, _, _, _, _⟩) (by kernel_rfl) (by kernel_rfl) rfl (fun K hK => ?_)
              go_simp
              obtain ⟨W8, hW8⟩ : ∃ W8, W7.alloc (.cells #[.slice Ad x.length c, .slice Ao ob.length co] 62) = W8 := ⟨_, rfl⟩
              rw [hW8]
              have hb8 : Below wr.heap.size wr W8 := by rw [← hW8]; exact below_alloc hb7' _
              have hx8 : W8.heap[W7.heap.size]? = some (.cells #[.slice Ad x.length c, .slice Ao ob.length co] 62 (0, 0)) := by rw [← hW8]; exact blk_new _ _
              clear hW8
              refine hK.out _ _ (.inr (keep W8 (Kpt.of_below hb8))) ?_
              clear hK K
              (try simp only [Act.put, List.setIfInBounds_toArray, List.set_cons_zero, List.set_cons_succ])
              refine wpAnyR_one (i := 11) (o := ⟨some 49, _, _, _, _, _⟩) (by kernel_rfl) (by kernel_rfl) rfl (fun K hK => ?_)
              go_simp
              refine (concat2 Ad x c Ao ob co W7.heap.size W8 hx8 (Kd.C_below hCx hb8) (Kd.C_below hCo hb8) (by omega)).mono ?_
              rintro e W10 ⟨v10, rfl, hR10, hb10⟩
              have hb10' : Below wr.heap.size wr W10 := hb8.trans (hb10.mono hb8.size)
              refine hK.out _ _ (.inr (keep W10 (Kpt.of_below hb10'))) ?_
              clear hK K
              (try simp only [Act.put, List.setIfInBounds_toArray, List.set_cons_zero, List.set_cons_succ])
              have hz10 : wr.heap.size ≤ W8.heap.size := hb8.size
              have hzwr : W5.heap.size ≤ wr.heap.size := hkp.size
              have hrd10 : RdNew w W10 (fun i => W8.heap.size ≤ i ∧ i < W10.heap.size) (x ++ ob) #[v10] :=
                ⟨v10, rfl, Kd.R_lower (Kd.R_mono (Kd.R_bound hR10) (fun i hi => ⟨hi.2.1, hi.2.2.1⟩)) (Nat.le_trans hbr.size hz10), fun i hi => hi.2⟩
              have hhit1 : hitB x lo ro ob = true := by simpa using hh
              have hpe : joinL pre right lo ro ++ ((F.take k).filter (hitB x lo ro)).map (x ++ ·) ++ [x ++ ob] = joinL pre right lo ro ++ ((F.take (k + 1)).filter (hitB x lo ro)).map (x ++ ·) := by
                rw [← hts, filter_snoc, if_pos hhit1, List.map_append, List.append_assoc]; rfl
              have hpp : joinL pre right lo ro ++ ((F.take (k + 1)).filter (hitB x lo ro)).map (x ++ ·) <+: joinL left right lo ro :=
                hjp _ (by rw [hjn]; exact ((List.take_prefix _ _).filter _).map _)
              obtain ⟨fn, tmps, assign, body, hy, hR⟩ := hY _ (x ++ ob) #[v10] (fun i => W8.heap.size ≤ i ∧ i < W10.heap.size) W10 Mk (hJ _ _ _ _ hJk (Kpt.of_new _ hb10')) (by rw [hpe]; exact hpp) hrd10
                (fun i hi => ⟨by rcases (hMk i hi).1 with h | h; rcases (hMj i h).1 with h | h; exact (hMc i h).1; omega; omega, Nat.lt_of_lt_of_le (hMk i hi).2 hb10'.size⟩)
                (fun i hi => ⟨by omega, hi.2, fun h => by have := (hMk i h).2; omega⟩) (by have := hb10'.size; omega)
              rw [hpe] at hR
              refine wpAnyR_oneIn (i := 12) (o := ⟨some 50, _, _, _, _, _⟩) (by kernel_rfl) rfl (fun K hK => ?_)
              rw [if_pos (by rfl)]
              refine ⟨fun _ _ => trivial, ?_⟩
              go_simp
              refine ⟨rfl, round_in _ (hR.mono ?_)⟩
              have hsz10 : W8.heap.size ≤ W10.heap.size := hb10.size
              have keepY : ∀ (M9 : Nat → Prop) (V : World), Kpt (fun i => Mk i ∨ (W8.heap.size ≤ i ∧ i < W10.heap.size)) W10 V → (∀ i, M9 i → (Mk i ∨ (W8.heap.size ≤ i ∧ i < W10.heap.size) ∨ W10.heap.size ≤ i) ∧ i < V.heap.size) →
                  (V.cell? ⟨W4.heap.size, 0, none⟩ = some (.int .i64 q0) ∧ V.cell? ⟨W4.heap.size, 1, none⟩ = some (.bool q1) ∧ V.cell? ⟨W4.heap.size, 2, none⟩ = some (.int .i64 q2) ∧ V.cell? ⟨W4.heap.size, 3, none⟩ = some (.string q3) ∧ V.cell? ⟨W.heap.size, 0, none⟩ = some (.func (.yield l) #[] #[]) ∧ V.cell? ⟨b2, 0, none⟩ = some (.int .i64 ro)) ∧
                  (∀ i, M9 i → (Mj i ∨ W5.heap.size ≤ i) ∧ i < V.heap.size) ∧ Kpt Mj W5 V := by
                intro M9 V hV hM9
                have hl9 := blk_lt h9
                have hl5 := blk_lt h5
                have hVr : Kpt Mk wr V := (Kpt.of_new Mk hb10').trans hV (fun i hi h => by
                  rcases h with h | h | h
                  · exact h
                  · exact h
                  · omega)
                have g9 := hVr.at h9 (fun h => (hMk9 _ h).1 rfl)
                have g5 := hVr.at h5 (fun h => (hMk9 _ h).2 rfl)
                have hVw : Below w.heap.size wr V := hVr.below hbr.size (fun i hi h => by
                  rcases (hMk i h).1 with z | z
                  · rcases (hMj i z).1 with z | z
                    · exact (hMc i z).1
                    · omega
                  · omega)
                refine ⟨⟨blk_cell g9 0, blk_cell g9 1, blk_cell g9 2, blk_cell g9 3, blk_cell g5 0, pw_cell_below (hbr.trans hVw) h2⟩, fun i hi => ⟨?_, (hM9 i hi).2⟩, hkp.trans hVr (fun i hi h => ?_)⟩
                · rcases (hM9 i hi).1 with h | h | h
                  · exact (hMk i h).1
                  · exact .inr (by omega)
                  · exact .inr (by omega)
                · rcases h with h | h
                  · exact h
                  · rcases (hMk i h).1 with z | z
                    · exact z
                    · omega
              rintro e W11 ⟨M9, hM9, hk9, (⟨rfl, hJ9⟩ | ⟨rfl, hJ9⟩)⟩
              · obtain ⟨hS11, hM11, hk11⟩ := keepY M9 W11 hk9 hM9
                refine hK.out _ _ (.inr hS11) ?_
                clear hK K
                (try simp only [Act.put, List.setIfInBounds_toArray, List.set_cons_zero, List.set_cons_succ])
                refine wpAnyR_take (i := 13) (oi := ⟨some 51, _, _, _, _, _⟩) (v := ?_) (by kernel_rfl) (by kernel_rfl) rfl (by kernel_rfl) (by kernel_rfl) (by kernel_rfl) (fun _ _ _ h => h) (Or.inl ⟨by rfl, ?_⟩) (by assumption) ?_
                rotate_left
                · intro w hSw; (try dsimp only at hSw); (try go_split_ands); go_simp; (try (with_reducible rfl))
                (try simp only [Act.put, List.setIfInBounds_toArray, List.set_cons_zero, List.set_cons_succ])
                refine wpAnyR_take (i := 14) (oi := ⟨some 52, _, _, _, _, _⟩) (v := ?_) (by kernel_rfl) (by kernel_rfl) rfl (by kernel_rfl) (by kernel_rfl) (by kernel_rfl) (fun _ _ _ h => h) (Or.inl ⟨by rfl, ?_⟩) (by assumption) ?_
                rotate_left
                · intro w hSw; (try dsimp only at hSw); (try go_split_ands); go_simp; (try (with_reducible rfl))
                (try simp only [Act.put, List.setIfInBounds_toArray, List.set_cons_zero, List.set_cons_succ])
                refine wpAnyR_done (by kernel_rfl) ?_ _
                gi_wp2
                go_roundw
                case rel => exact ⟨k + 1, by omega, by go_num, M9, hJ9, hM11, hk11⟩
                case measure => simp [intOf]; omega
              · obtain ⟨hS11, hM11, hk11⟩ := keepY M9 W11 hk9 hM9
                refine hK.out _ _ (.inr hS11) ?_
                clear hK K
                (try simp only [Act.put, List.setIfInBounds_toArray, List.set_cons_zero, List.set_cons_succ])
                refine wpAnyR_take (i := 13) (oi := ⟨some 51, _, _, _, _, _⟩) (v := ?_) (by kernel_rfl) (by kernel_rfl) rfl (by kernel_rfl) (by kernel_rfl) (by kernel_rfl) (fun _ _ _ h => h) (Or.inl ⟨by rfl, ?_⟩) (by assumption) ?_
                rotate_left
                · intro w hSw; (try dsimp only at hSw); (try go_split_ands); go_simp; (try (with_reducible rfl))
                (try simp only [Act.put, List.setIfInBounds_toArray, List.set_cons_zero, List.set_cons_succ])
                refine wpAnyR_take (i := 14) (oi := ⟨some 52, _, _, _, _, _⟩) (v := ?_) (by kernel_rfl) (by kernel_rfl) rfl (by kernel_rfl) (by kernel_rfl) (by kernel_rfl) (fun _ _ _ h => h) (Or.inl ⟨by rfl, ?_⟩) (by assumption) ?_
                rotate_left
                · intro w hSw; (try dsimp only at hSw); (try go_split_ands); go_simp; (try (with_reducible rfl))
                (try simp only [Act.put, List.setIfInBounds_toArray, List.set_cons_zero, List.set_cons_succ])
                refine wpAnyR_done (by kernel_rfl) ?_ _
                gi_wp2
                obtain ⟨M12, g1, g2, g3⟩ := fin Jx _ M9 W11 hJ9 hM11 hk11
                exact ⟨M12, g1, g2, rfl, _, hpp, g3⟩
            · gi_wp2
              refine wpIn_region_R 15 (S := fun V => V.cell? ⟨W4.heap.size, 0, none⟩ = some (.int .i64 q0) ∧ V.cell? ⟨W4.heap.size, 1, none⟩ = some (.bool q1) ∧ V.cell? ⟨W4.heap.size, 2, none⟩ = some (.int .i64 q2) ∧ V.cell? ⟨W4.heap.size, 3, none⟩ = some (.string q3) ∧ V.cell? ⟨W.heap.size, 0, none⟩ = some (.func (.yield l) #[] #[]) ∧ V.cell? ⟨b2, 0, none⟩ = some (.int .i64 ro)) (by kernel_rfl) ⟨e0, e1, e2, e3, e5, d2⟩ (fun hS0 => ?_)
              refine wpAnyR_take (i := 0) (oi := ⟨some 38, _, _, _, _, _⟩) (v := ?_) (by kernel_rfl) (by kernel_rfl) rfl (by kernel_rfl) (by kernel_rfl) (by kernel_rfl) (fun _ _ _ h => h) (Or.inl ⟨by rfl, ?_⟩) (by assumption) ?_
              rotate_left
              · intro w hSw; (try dsimp only at hSw); (try go_split_ands); go_simp; (try (with_reducible rfl))
              (try simp only [Act.put, List.setIfInBounds_toArray, List.set_cons_zero, List.set_cons_succ])
              refine wpAnyR_take (i := 1) (oi := ⟨some 39, _, _, _, _, _⟩) (v := ?_) (by kernel_rfl) (by kernel_rfl) rfl (by kernel_rfl) (by kernel_rfl) (by kernel_rfl) (fun _ _ _ h => h) (Or.inl ⟨by rfl, ?_⟩) (by assumption) ?_
              rotate_left
              · intro w hSw; (try dsimp only at hSw); (try go_split_ands); go_simp; (try (with_reducible rfl))
              (try simp only [Act.put, List.setIfInBounds_toArray, List.set_cons_zero, List.set_cons_succ])
              refine wpAnyR_take (i := 2) (oi := ⟨some 40, _, _, _, _, _⟩) (v := ?_) (by kernel_rfl) (by kernel_rfl) rfl (by kernel_rfl) (by kernel_rfl) (by kernel_rfl) (fun _ _ _ h => h) (Or.inl ⟨by rfl, ?_⟩) (by assumption) ?_
              rotate_left
              · intro w hSw; (try dsimp only at hSw); (try go_split_ands); go_simp; (try (with_reducible rfl))
              (try simp only [Act.put, List.setIfInBounds_toArray, List.set_cons_zero, List.set_cons_succ])
              refine wpAnyR_one (i := 3) (o := ⟨some 41, _, _, _, _, _⟩) (by kernel_rfl) (by kernel_rfl) rfl (fun K hK => ?_)
              go_simp
              refine (exec_at.calls Ao co ob ro _ _ _ _ wr.drew (Kd.C_drew hCo) hleo hb).mono ?_
              rintro e W6 ⟨rfl, hb6⟩
              have hb6' : Below wr.heap.size wr W6 := (below_drew (Below.refl _ wr)).trans hb6
              have hS6 := keep W6 (Kpt.of_below hb6')
              (try dsimp only)
              refine hK.out _ _ (.inr hS6) ?_
              clear hK K
              (try simp only [Act.put, List.setIfInBounds_toArray, List.set_cons_zero, List.set_cons_succ])
              refine wpAnyR_one (i := 4) (o := ⟨some 42, _, _, _, _, _⟩) (by kernel_rfl) (by kernel_rfl) rfl (fun K hK => ?_)
              go_simp
              refine (value_Compare.calls q0 q1 q2 q3 p0 p1 p2 p3 _ W6 (by rw [value_Compare.f, hcv])).mono ?_
              rintro e W7 ⟨rfl, hb7⟩
              have hb7' : Below wr.heap.size wr W7 := hb6'.trans (hb7.mono hb6'.size)
              have hS7 := keep W7 (Kpt.of_below hb7')
              (try dsimp only)
              refine hK.out _ _ (.inr hS7) ?_
              clear hK K
              (try simp only [Act.put, List.setIfInBounds_toArray, List.set_cons_zero, List.set_cons_succ])
              have hzf : (z == 0) = false := by simpa using hcmp
              have hzd : decide (z = 0) = false := by simpa using hcmp
              refine wpAnyR_take (i := 5) (oi := ⟨some 43, _, _, _, _, _⟩) (v := ?_) (by kernel_rfl) (by kernel_rfl) rfl (by kernel_rfl) (by kernel_rfl) (by kernel_rfl) (fun _ _ _ h => h) (Or.inl ⟨by rfl, ?_⟩) (by assumption) ?_
              rotate_left
              · intro w hSw; (try dsimp only at hSw); (try go_split_ands); go_simp; (try (with_reducible rfl))
              (try simp only [Act.put, List.setIfInBounds_toArray, List.set_cons_zero, List.set_cons_succ])
              (try simp only [hzf, hzd])
              refine wpAnyR_take (i := 6) (oi := ⟨some 44, _, _, _, _, _⟩) (v := ?_) (by kernel_rfl) (by kernel_rfl) rfl (by kernel_rfl) (by kernel_rfl) (by kernel_rfl) (fun _ _ _ h => h) (Or.inl ⟨by rfl, ?_⟩) (by assumption) ?_
              rotate_left
              · intro w hSw; (try dsimp only at hSw); (try go_split_ands); go_simp; (try (with_reducible rfl))
              (try simp only [Act.put, List.setIfInBounds_toArray, List.set_cons_zero, List.set_cons_succ])
              refine wpAnyR_take (i := 7) (oi := ⟨some 45, _, _, _, _, _⟩) (v := undef) (by kernel_rfl) (by kernel_rfl) rfl (by kernel_rfl) (by kernel_rfl) (by kernel_rfl) (fun _ _ _ h => h) (Or.inr ⟨by rfl, rfl⟩) (by assumption) ?_
              (try simp only [Act.put, List.setIfInBounds_toArray, List.set_cons_zero, List.set_cons_succ])
              refine wpAnyR_take (i := 8) (oi := ⟨some 46, _, _, _, _, _⟩) (v := undef) (by kernel_rfl) (by kernel_rfl) rfl (by kernel_rfl) (by kernel_rfl) (by kernel_rfl) (fun _ _ _ h => h) (Or.inr ⟨by rfl, rfl⟩) (by assumption) ?_
              (try simp only [Act.put, List.setIfInBounds_toArray, List.set_cons_zero, List.set_cons_succ])
              refine wpAnyR_take (i := 9) (oi := ⟨some 47, _, _, _, _, _⟩) (v := undef) (by kernel_rfl) (by kernel_rfl) rfl (by kernel_rfl) (by kernel_rfl) (by kernel_rfl) (fun _ _ _ h => h) (Or.inr ⟨by rfl, rfl⟩) (by assumption) ?_
              (try simp only [Act.put, List.setIfInBounds_toArray, List.set_cons_zero, List.set_cons_succ])
              refine wpAnyR_take (i := 10) (oi := ⟨some 48, _, _, _, _, _⟩) (v := undef) (by kernel_rfl) (by kernel_rfl) rfl (by kernel_rfl) (by kernel_rfl) (by kernel_rfl) (fun _ _ _ h => h) (Or.inr ⟨by rfl, rfl⟩) (by assumption) ?_
              (try simp only [Act.put, List.setIfInBounds_toArray, List.set_cons_zero, List.set_cons_succ])
              refine wpAnyR_take (i := 11) (oi := ⟨some 49, _, _, _, _, _⟩) (v := undef) (by kernel_rfl) (by kernel_rfl) rfl (by kernel_rfl) (by kernel_rfl) (by kernel_rfl) (fun _ _ _ h => h) (Or.inr ⟨by rfl, rfl⟩) (by assumption) ?_
              (try simp only [Act.put, List.setIfInBounds_toArray, List.set_cons_zero, List.set_cons_succ])
              refine wpAnyR_take (i := 12) (oi := ⟨some 50, _, _, _, _, _⟩) (v := undef) (by kernel_rfl) (by kernel_rfl) rfl (by kernel_rfl) (by kernel_rfl) (by kernel_rfl) (fun _ _ _ h => h) (Or.inr ⟨by rfl, rfl⟩) (by assumption) ?_
              (try simp only [Act.put, List.setIfInBounds_toArray, List.set_cons_zero, List.set_cons_succ])
              refine wpAnyR_take (i := 13) (oi := ⟨some 51, _, _, _, _, _⟩) (v := undef) (by kernel_rfl) (by kernel_rfl) rfl (by kernel_rfl) (by kernel_rfl) (by kernel_rfl) (fun _ _ _ h => h) (Or.inr ⟨by rfl, rfl⟩) (by assumption) ?_
              (try simp only [Act.put, List.setIfInBounds_toArray, List.set_cons_zero, List.set_cons_succ])
              refine wpAnyR_take (i := 14) (oi := ⟨some 52, _, _, _, _, _⟩) (v := ?_) (by kernel_rfl) (by kernel_rfl) rfl (by kernel_rfl) (by kernel_rfl) (by kernel_rfl) (fun _ _ _ h => h) (Or.inl ⟨by rfl, ?_⟩) (by assumption) ?_
              rotate_left
              · intro w hSw; (try dsimp only at hSw); (try go_split_ands); go_simp; (try (with_reducible rfl))
              (try simp only [Act.put, List.setIfInBounds_toArray, List.set_cons_zero, List.set_cons_succ])
              refine wpAnyR_done (by kernel_rfl) ?_ _
              gi_wp2
              go_roundw
              case rel =>
                have hno : ¬ (hitB x lo ro ob = true) := fun h => hcmp (hh.1 h)
                refine ⟨k + 1, by omega, by go_num, Mk, ?_, fun i hi => ⟨(hMk i hi).1, Nat.lt_of_lt_of_le (hMk i hi).2 hb7'.size⟩, hkp.trans (Kpt.of_new Mj hb7') (fun _ _ h => h.elim id id)⟩
                rw [← hts, filter_snoc, if_neg hno]
                exact hJ _ _ _ _ hJk (Kpt.of_new _ hb7')
              case measure => simp [intOf]; omega
          · obtain rfl : k = F.length := by omega
            gi_wp2
            rw [List.take_length, ← hjn] at hJk
            obtain ⟨M9, h91, h92, h93⟩ := fin J _ Mk wr hJk hMk hkp
            refine ⟨M9, h91, h92, ?_⟩
            show J2 J Mc W W2 (joinL (pre ++ [x]) right lo ro) M9 wr
            rw [hsn]
            exact h93
    case done2 =>
      intro D2 W3 M3 hI3 hk3 hM3 hD3 hDw3 hDM3
      gi_wp2
      simp only [Exit.noGoto]
      gi_wp2
      have hMcW : ∀ i, Mc i → i < W.heap.size := fun i h => (hMc i h).2
      have hDW : W.heap.size ≤ D := by omega
      have hD2 : D < W2.heap.size := (Array.getElem?_eq_some_iff.1 hD).1
      have hDk : (W3.putObj D2 (.deferred none)).heap[D]? = some (.deferred (some [])) := by
        obtain ⟨_, _, _, _, hk⟩ := hI3
        exact (Kpt.putObj W3 D2 _).at (hk.at hD (fun h => by have := hMcW D h; omega)) (by omega)
      refine ⟨by simp, .inl ⟨_, _, rfl, run_takeDeferred hD3, by simp, .inl ⟨_, _, rfl, run_takeDeferred hDk, ?_⟩⟩⟩
      obtain ⟨M4, h41, h42, h43⟩ := (hI3.put hJ hMcW hzW2 hDw3 hDM3 (o := .deferred none)).ends hJ hMcW hBW hDW (fun h => by omega) (o := .deferred none)
      exact ⟨_, results_none rfl _ _ _, ⟨_, rfl⟩, M4, h41, h42, .inl h43⟩
    case stop2 =>
      intro D2 c pre W3 M3 hpre hI3 hk3 hM3 hD3 hDw3 hDM3
      obtain ⟨rfl, y, hy, hI3⟩ := hI3
      gi_wp2
      simp only [Exit.noGoto]
      gi_wp2
      have hMcW : ∀ i, Mc i → i < W.heap.size := fun i h => (hMc i h).2
      have hDW : W.heap.size ≤ D := by omega
      have hD2 : D < W2.heap.size := (Array.getElem?_eq_some_iff.1 hD).1
      have hDk : (W3.putObj D2 (.deferred none)).heap[D]? = some (.deferred (some [])) := by
        obtain ⟨_, _, _, _, hk⟩ := hI3
        exact (Kpt.putObj W3 D2 _).at (hk.at hD (fun h => by have := hMcW D h; omega)) (by omega)
      refine ⟨by simp, .inl ⟨_, _, rfl, run_takeDeferred hD3, by simp, .inl ⟨_, _, rfl, run_takeDeferred hDk, ?_⟩⟩⟩
      obtain ⟨M4, h41, h42, h43⟩ := (hI3.put hJx hMcW hzW2 hDw3 hDM3 (o := .deferred none)).ends hJx hMcW hBW hDW (fun h => by omega) (o := .deferred none)
      exact ⟨_, results_none rfl _ _ _, ⟨_, rfl⟩, M4, h41, h42, .inr ⟨y, hy, h43⟩⟩
end Go.Proofs.YtihdlalbgdighaaDoor.QV
/- hayloftref02.SameAll of rows and themselves; hayloftlaw15.copied tells the rows; hayloftref15.Join tells joinL. -/
namespace Go.Proofs.YtihdlalbgdighaaDoor.QV
open Go.RowKit Go.Proofs.YtihdlalbgdighaaDoorW.PrintWords Go.Proofs.YtihdlalbgdighaaDoor.Op
set_option linter.unusedVariables false
set_option linter.unusedSimpArgs false
theorem same_row (a b : List S') (hm : a.length ≤ 9223372036854775807) : Ev (fun k => hayloftref02_SameRow.f k a b) (eqRow a b) := by
  unfold hayloftref02_SameRow.f
  by_cases h : a.length = b.length
  · simp only [if_pos (show (a.length : Int) = (b.length : Int) from by omega)]
    exact same_loop a b hm a.length 0 (by omega) h
  · simp only [if_neg (show ¬ (a.length : Int) = (b.length : Int) from by omega)]
    rw [eqRow_len h]
    exact Ev.now _
def eqRows : List Row → List Row → Bool
  | [], [] => true
  | x :: xs, y :: ys => eqRow x y && eqRows xs ys
  | _, _ => false
theorem eqRows_iff : ∀ {a b : List Row}, eqRows a b = true ↔ a = b
  | [], [] => by simp [eqRows]
  | [], _ :: _ => by simp [eqRows]
  | _ :: _, [] => by simp [eqRows]
  | x :: xs, y :: ys => by rw [eqRows, Bool.and_eq_true, eqRow_iff, eqRows_iff]; simp
theorem eqRows_len {a b : List Row} (h : a.length ≠ b.length) : eqRows a b = false := by
  rw [← Bool.not_eq_true, eqRows_iff]
  rintro rfl
  exact h rfl
theorem getD_mem {α : Type} (z : α) {a : List α} {i : Nat} (h : i < a.length) : a.getD i z ∈ a := by
  rw [List.getD_eq_getElem?_getD, List.getElem?_eq_getElem h]; exact List.getElem_mem h
theorem all_loop (a b : List Row) (hm : a.length ≤ 9223372036854775807) (hx : ∀ x ∈ a, x.length ≤ 9223372036854775807) : ∀ (d i : Nat), i + d = a.length → a.length = b.length → Ev (fun k => hayloftref02_SameAll.l0 k a b (i : Int)) (eqRows (a.drop i) (b.drop i)) := by
  intro d
  induction d with
  | zero =>
    intro i hi hl
    rw [List.drop_of_length_le (by omega), List.drop_of_length_le (by omega)]
    refine Ev.step (f := fun _ => some true) (fun k => ?_) (Ev.now _)
    simp only [hayloftref02_SameAll.l0]
    rw [if_neg (by omega)]
  | succ d ih =>
    intro i hi hl
    have hw : wrap64 ((i : Int) + 1) = ((i + 1 : Nat) : Int) := by unfold wrap64; omega
    have hra : rd_L4 a (i : Int) = a.getD i [] := rfl
    have hrb : rd_L4 b (i : Int) = b.getD i [] := rfl
    have hih := ih (i + 1) (by omega) hl
    have hxa := hx _ (getD_mem [] (show i < a.length by omega))
    rw [drop_get [] a i (by omega), drop_get [] b i (by omega), eqRows]
    generalize a.getD i [] = x at hra hxa
    generalize b.getD i [] = y at hrb
    have hsr := same_row x y hxa
    refine Ev.step (f := fun k => (hayloftref02_SameRow.f k x y).bind fun t => if t = true then hayloftref02_SameAll.l0 k a b ((i + 1 : Nat) : Int) else some false) (fun k => ?_) ?_
    · simp only [hayloftref02_SameAll.l0, hra, hrb, hw]
      rw [if_pos (by omega), if_pos (by omega), if_pos (by omega)]
    · refine hsr.bind ?_
      cases he : eqRow x y
      · rw [Bool.false_and]
        simp only [Bool.false_eq_true, if_false]
        exact Ev.now _
      · rw [Bool.true_and]
        simp only [if_true]
        exact hih
theorem same_all (a b : List Row) (hm : a.length ≤ 9223372036854775807) (hx : ∀ x ∈ a, x.length ≤ 9223372036854775807) : Ev (fun k => hayloftref02_SameAll.f k a b) (eqRows a b) := by
  unfold hayloftref02_SameAll.f
  by_cases h : a.length = b.length
  · simp only [if_pos (show (a.length : Int) = (b.length : Int) from by omega)]
    exact all_loop a b hm hx a.length 0 (by omega) h
  · simp only [if_neg (show ¬ (a.length : Int) = (b.length : Int) from by omega)]
    rw [eqRows_len h]
    exact Ev.now _
theorem same_self (a : List Row) (hm : a.length ≤ 9223372036854775807) (hx : ∀ x ∈ a, x.length ≤ 9223372036854775807) : ∃ k, hayloftref02_SameAll.f k a a = some true := by
  have h := same_all a a hm hx
  rw [eqRows_iff.2 rfl] at h
  exact h.rounds

end Go.Proofs.YtihdlalbgdighaaDoor.QV
/- slices.Values, exec.Join as functions; hayloftlaw15.twice over what an iterator gives. -/
namespace Go.Proofs.YtihdlalbgdighaaDoor.QV
open Go.RowKit Go.Proofs.YtihdlalbgdighaaDoorW.PrintWords Go.Proofs.YtihdlalbgdighaaDoor.Seq Go.Shelf Go.Proofs.YtihdlalbgdighaaDoor.Op
set_option linter.unusedVariables false
set_option maxRecDepth 100000
set_option linter.unusedSimpArgs false
attribute [local go_sem] Oper.semAt_some

theorem values_is (A : Option Addr) (xs : List Row) (c : Nat) (w : World) (hr : kRows.C w A xs.length xs) :
    Calls Tryd.prog 22 #[.slice A xs.length c] w fun e w' => ∃ v, e = .returned v ∧ IsSeq w' v xs ∧ Below w.heap.size w w' := by
  refine (values_any (.slice A xs.length c) ⟨_, _, _, rfl⟩ w).mono ?_
  rintro e w' ⟨rfl, hw'⟩
  have hb : Below w.heap.size w w' := by rw [hw']; exact below_alloc (Below.refl _ _) _
  refine ⟨_, rfl, ⟨_, _, RdOld w', rfl, fun args w => rfl, values_seq A xs c w.heap.size w' ?_ ?_ (Kd.C_below hr hb), fun A B N x vs h hk => h.kept hk, fun A N x vs h => ?_⟩, hb⟩
  · rw [hw']; simp
  · rw [hw']; exact blk_cell (blk_new _ _) 0
  · obtain ⟨_, hA, Ad, c, rfl, hle, hC⟩ := h
    exact ⟨Ad, c, rfl, hle, Kd.C_below hC hA⟩

/-- An iterator's value whose rows are its consumer's own. -/
def IsOwn (w : World) (sv : Value) (xs : List Row) : Prop := ∃ g lb, sv = .func (.func g) #[] lb ∧ (∀ args w, (callFunc g args).run Tryd.prog w = .ok (.enter g args) w) ∧ SeqOf Tryd.prog g lb (RdNew w) xs w
theorem IsOwn.seq {w : World} {sv : Value} {xs : List Row} (h : IsOwn w sv xs) : IsSeq w sv xs := by
  obtain ⟨g, lb, h1, h2, h3⟩ := h
  exact ⟨g, lb, RdNew w, h1, h2, h3, fun A B N x vs h hk => h.kept hk, fun A N x vs h => h.reads⟩

set_option maxHeartbeats 1000000 in
theorem join_is (left right : List Row) (lo ro : Int) (svL svR : Value) (w : World) (hL : IsSeq w svL left) (hR : IsSeq w svR right)
    (hbR : ∀ x ∈ right, x.length ≤ 1048576) (hbL : ∀ x ∈ left, x.length ≤ 1048576) (hnR : right.length ≤ 1048576) :
    Calls Tryd.prog 24 #[svL, svR, .int .i64 lo, .int .i64 ro] w fun e w' => ∃ v, e = .returned v ∧ IsOwn w' v (joinL left right lo ro) ∧ Below w.heap.size w w' := by
  have HL := Lib.hid hL
  have HR := Lib.hid hR
  obtain ⟨gL, lbL, RdL, rfl, qL⟩ := hL
  obtain ⟨gR, lbR, RdR, rfl, qR⟩ := hR
  have hL : IsSeq w (.func (.func gL) #[] lbL) left := ⟨gL, lbL, RdL, rfl, qL⟩
  have hR : IsSeq w (.func (.func gR) #[] lbR) right := ⟨gR, lbR, RdR, rfl, qR⟩
  clear qL qR HL HR
  go_enter Tryd.func24, Tryd.ntmps24
  go_wp2
  go_ret
  obtain ⟨w', hw'⟩ : ∃ w', (((w.alloc (.cells #[.func (.func gL) #[] lbL] 65)).alloc (.cells #[.func (.func gR) #[] lbR] 65)).alloc (.cells #[.int .i64 lo] 3)).alloc (.cells #[.int .i64 ro] 3) = w' := ⟨_, rfl⟩
  rw [hw']
  have hb : Below w.heap.size w w' := by rw [← hw']; exact below_alloc (below_alloc (below_alloc (below_alloc (Below.refl _ _) _) _) _) _
  have g0 : w'.heap[w.heap.size]? = some (.cells #[.func (.func gL) #[] lbL] 65 (0, 0)) := by rw [← hw']; exact blk_alloc (blk_alloc (blk_alloc (blk_new _ _) _) _) _
  have g1 : w'.heap[w.heap.size + 1]? = some (.cells #[.func (.func gR) #[] lbR] 65 (0, 0)) := by
    have := blk_new (w.alloc (.cells #[.func (.func gL) #[] lbL] 65)) (.cells #[.func (.func gR) #[] lbR] 65)
    rw [World.size_alloc] at this
    rw [← hw']; exact blk_alloc (blk_alloc this _) _
  have g2 : w'.heap[w.heap.size + 2]? = some (.cells #[.int .i64 lo] 3 (0, 0)) := by
    have := blk_new ((w.alloc (.cells #[.func (.func gL) #[] lbL] 65)).alloc (.cells #[.func (.func gR) #[] lbR] 65)) (.cells #[.int .i64 lo] 3)
    rw [World.size_alloc, World.size_alloc] at this
    rw [← hw']; exact blk_alloc this _
  have g3 : w'.heap[w.heap.size + 3]? = some (.cells #[.int .i64 ro] 3 (0, 0)) := by
    have := blk_new (((w.alloc (.cells #[.func (.func gL) #[] lbL] 65)).alloc (.cells #[.func (.func gR) #[] lbR] 65)).alloc (.cells #[.int .i64 lo] 3)) (.cells #[.int .i64 ro] 3)
    rw [World.size_alloc, World.size_alloc, World.size_alloc] at this
    rw [← hw']; exact this
  exact ⟨_, rfl, ⟨_, _, rfl, fun args w => rfl, join_seq left right lo ro (.func (.func gL) #[] lbL) (.func (.func gR) #[] lbR) _ _ _ _ w' (hL.later hb) (hR.later hb) (blk_cell g1 0) (blk_cell g3 0) (blk_cell g0 0) (blk_cell g2 0) hbR hbL hnR⟩, hb⟩
end Go.Proofs.YtihdlalbgdighaaDoor.QV
/- (exec.group).told where a count is asked. -/
namespace Go.Proofs.YtihdlalbgdighaaDoor.QV
open Go.RowKit Go.Proofs.YtihdlalbgdighaaDoorW.PrintWords Go.Proofs.YtihdlalbgdighaaDoor.Seq Go.Shelf Go.Proofs.YtihdlalbgdighaaDoor.Op
set_option linter.unusedVariables false
set_option maxRecDepth 100000
set_option linter.unusedSimpArgs false

theorem int_any (n : Int) (w : World) : Calls Tryd.prog 85 #[.int .i64 n] w fun e w' => e = .returned (.agg #[.int .i64 2, .bool false, .int .i64 n, .string ⟨#[]⟩]) ∧ Below w.heap.size w w' := by
  go_enter Tryd.func85, Tryd.ntmps85
  go_wp2
  go_returns
  all_goals (first | exact ⟨rfl, below_alloc (Below.refl _ _) _⟩ | skip)

end Go.Proofs.YtihdlalbgdighaaDoor.QV
/- The search for a group, of one group without a key. -/
namespace Go.Proofs.YtihdlalbgdighaaDoor.QV
open Go.RowKit Go.Proofs.YtihdlalbgdighaaDoorW.PrintWords Go.Proofs.YtihdlalbgdighaaDoor.Seq Go.Shelf Go.Proofs.YtihdlalbgdighaaDoor.Op
set_option linter.unusedVariables false
set_option linter.unusedSimpArgs false

end Go.Proofs.YtihdlalbgdighaaDoor.QV
/- exec.Group of one row without a key, where the rows are to be counted. -/
namespace Go.Proofs.YtihdlalbgdighaaDoor.QV
open Go.RowKit Go.Proofs.YtihdlalbgdighaaDoorW.PrintWords Go.Proofs.YtihdlalbgdighaaDoor.Seq Go.Shelf Go.Proofs.YtihdlalbgdighaaDoor.Op
set_option linter.unusedVariables false
set_option maxRecDepth 100000
set_option linter.unusedSimpArgs false
attribute [local go_sem] Oper.semAt_some

/-- Two cells as they are. -/
def kRaw : Kd (Value × Value) where
  sz := 2
  E := []
  K _ x cs := cs = [x.1, x.2] ∧ x.1.oneCell' = true ∧ x.2.oneCell' = true
  M _ _ _ x cs := cs = [x.1, x.2] ∧ x.1.oneCell' = true ∧ x.2.oneCell' = true
  K_len h := by rw [h.1]; rfl
  K_one h u hu := by
    obtain ⟨rfl, h1, h2⟩ := h
    simp only [List.mem_cons, List.not_mem_nil, or_false] at hu
    rcases hu with rfl | rfl
    · exact h1
    · exact h2
  K_below _ h := h
  K_of_M h := h
  M_mono _ h := h
  M_bound h := h
  M_move _ h := h
  M_lower _ h := h
theorem infoG : (Tryd.prog.info? 115).map (fun i => (i.zero, i.size, i.bytes)) = some (some (.agg #[.slice none 0 0, .slice none 0 0]), 2, 48) := by kernel_rfl

/-- Between two rounds: one group, of the rows so far. -/
def GrpI (W : World) (cap : Nat) (pre : List Row) (M : Nat → Prop) (A : World) : Prop :=
  M W.heap.size ∧ M (W.heap.size + 1 + 1) ∧ A.heap[W.heap.size]? = some (.cells #[.slice (some ⟨W.heap.size + 1 + 1, 0, none⟩) 1 cap] 113 (0, 0)) ∧
    (∃ cs rv, A.heap[W.heap.size + 1 + 1]? = some (.cells cs 115 (0, 0)) ∧ cs[0]? = some (.slice none 0 0) ∧ cs[1]? = some rv ∧ Kd.S kRows tRow A W.heap.size (fun k => M k ∧ k ≠ W.heap.size ∧ k ≠ W.heap.size + 1 + 1) rv pre) ∧ (∀ i, M i → W.heap.size ≤ i) ∧ Below W.heap.size W A
theorem GrpI.kept {W : World} {cap : Nat} {pre : List Row} {M : Nat → Prop} {A B : World} {q : Nat → Prop} (h : GrpI W cap pre M A) (hq : ∀ i, q i → W.heap.size ≤ i) (hk : Kpt (fun i => q i ∧ ¬ M i) A B) : GrpI W cap pre M B := by
  obtain ⟨h1, h2, h3, ⟨cs, rv, h4, h5, h6, h7⟩, h8, h9⟩ := h
  exact ⟨h1, h2, hk.at h3 (fun h => h.2 h1), ⟨cs, rv, hk.at h4 (fun h => h.2 h2), h5, h6, Kd.S_step h7 (fun k hk' hlt => hk.block k hlt (fun h => h.2 hk'.1))⟩, h8, h9.trans (hk.below h9.size (fun i _ h => hq i h.1))⟩
theorem C_nil (w : World) : kS.C w none 0 [] := by simp [Kd.C, ReadsRow]
end Go.Proofs.YtihdlalbgdighaaDoor.QV
