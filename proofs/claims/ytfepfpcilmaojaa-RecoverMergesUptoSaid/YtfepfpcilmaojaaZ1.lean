/- The parts QVx0, MapG, Map, RoundW, Keyed, QOx0, QOx1, Ord, SeqP, Keys, Collect, Shelf, Sorted, Rising, CloneR, Told8, Upto, Del, Changes of this proof, one behind the other. -/
import Derived.Test.YtfepfpcilmaojaaZW1
import Derived.Test.YtfepfpcilmaojaaProg
import Derived.Below
import Derived.Deep.Draws
import Derived.Deep.AppendLies
import Derived.Maps.AppendAt
import Derived.OwnWalk
import Derived.Laws.BytesArg
import Derived.Laws.MakeOwn
import Derived.Laws.OwnMore
import Derived.Deep.OwnRows
import Derived.Tactics
import Derived.Lib.ConvBytes
import Derived.Laws.Slices
import Derived.WalkKit
import Derived.KernelRfl
import Derived.RowKit3
import Derived.Deep.LoopGhost
import Derived.Deep.QuietTactic
import Derived.BigQuiet
import Derived.WideLaws
import Derived.Deep.DeepCutAuto
import Derived.Deep.CutBlock
import Derived.Deep.RegionHeld3
import Derived.Laws.Rows
import Derived.Lib.AppendStr
import Derived.ArgAppend
import Derived.Laws.IdiomCopy
import Derived.OrdersHeld
import Derived.Laws.BitsLemmas
import Derived.RowKit
import Derived.Maps.OwnSet
import Derived.Maps.OwnOps
import Derived.Maps.RangeWalk
import Derived.Maps.Ext
import Derived.DeepKeys4
import Derived.Sort.MapsRangeIn
import Derived.OrdersIn
import Derived.TacticsIn
import Derived.RangeFuncCalls
import Derived.Deep.RegionHeld
import Derived.Lib.Hide
import Derived.Handy
import Derived.Sort.Grow
import Derived.RangeFuncNested
import Derived.RangeFuncBound
import Derived.RangeFuncLeaves
import Derived.Shelf.Abstract
import Derived.OwnWalkIn
import Derived.TacticsInMore
import Derived.LoopNIn
import Derived.LoopIn
import Derived.Maps.OwnIn
import Derived.Shelf.Small.Bits
import Derived.Shelf.SlSortCmp.WholeK
import Derived.Sort.OwnSorted
import Derived.WalkSpells
import Derived.Lib.SliceRun
/- Printed by mp.py (this session's) with the kit's print: plain functions with the answers of the Go code, and the proofs of it. -/
namespace Go.Proofs.Ytfepfpcilmaojaa.QV
open Go.RowKit Go.Proofs.YtfepfpcilmaojaaW.PrintWords Go.Proofs.YtfepfpcilmaojaaW.PrintLast Go.Proofs.YtfepfpcilmaojaaW.PrintMore
attribute [local go_sem] max2_int min2_int max_two min_two max_three min_three max_four min_four   -- for this text's walks alone
set_option linter.unusedVariables false
set_option linter.unusedSimpArgs false



def errW : Option Int → Value
  | none => .nilIface
  | some c => .iface 0 (.int .i64 c)
theorem errW_none : errW none = .nilIface := rfl
theorem errW_some (c : Int) : errW (some c) = .iface 0 (.int .i64 c) := rfl

theorem info34 : (Try.prog.info? 34).map (fun i => (i.zero, i.size, i.bytes)) = some (some (.agg #[(.int .u64 0), (.int .u32 0), (.slice none 0 0), (.int .u64 0)]), 4, 48) := by kernel_rfl
theorem info50 : (Try.prog.info? 50).map (fun i => (i.zero, i.size, i.bytes)) = some (some (.agg #[(.int .i64 0), (.int .i64 0)]), 2, 16) := by kernel_rfl
-- the values' own types
/-! #### struct type 31 -/
structure S31 where
  f0 : Int
  f1 : Int
def z31 : S31 := ⟨(0 : Int), (0 : Int)⟩
def k31 : Kd S31 := Kd.iso (Kd.pair (Kd.int .u64) (Kd.int .u32)) (fun x : S31 => (x.f0, x.f1))
theorem k31_heap : Kd.Heap k31 := Kd.heap_iso _ (Kd.heap_pair (Kd.heap_int .u64) (Kd.heap_int .u32))
theorem k31_open {w : World} {x : S31} {cs : List Value} (h : k31.K w x cs) : cs = [.int .u64 x.f0, .int .u32 x.f1] := by
  obtain ⟨_, _, rfl, rfl, rfl⟩ := h
  exact rfl
theorem k31_openM {w : World} {base : Nat} {ok : Nat → Prop} {x : S31} {cs : List Value} (h : k31.M w base ok x cs) : cs = [.int .u64 x.f0, .int .u32 x.f1] := by
  obtain ⟨_, _, rfl, rfl, rfl⟩ := h
  exact rfl
theorem k31_mk (w : World) (x : S31)  : k31.K w x [.int .u64 x.f0, .int .u32 x.f1] := ⟨[.int .u64 x.f0], [.int .u32 x.f1], rfl, rfl, rfl⟩
theorem k31_mkM (w : World) (base : Nat) (ok : Nat → Prop) (x : S31)  : k31.M w base ok x [.int .u64 x.f0, .int .u32 x.f1] := ⟨[.int .u64 x.f0], [.int .u32 x.f1], rfl, rfl, rfl⟩
/-! #### struct type 36 -/
structure S36 where
  f0 : Int
  f1 : Bool
  f2 : Int
  f3 : ByteArray
def z36 : S36 := ⟨(0 : Int), false, (0 : Int), (⟨#[]⟩ : ByteArray)⟩
def k36 : Kd S36 := Kd.iso (Kd.pair (Kd.int .i64) (Kd.pair Kd.bool (Kd.pair (Kd.int .i64) Kd.string))) (fun x : S36 => (x.f0, x.f1, x.f2, x.f3))
theorem k36_heap : Kd.Heap k36 := Kd.heap_iso _ (Kd.heap_pair (Kd.heap_int .i64) (Kd.heap_pair Kd.heap_bool (Kd.heap_pair (Kd.heap_int .i64) Kd.heap_string)))
theorem k36_open {w : World} {x : S36} {cs : List Value} (h : k36.K w x cs) : cs = [.int .i64 x.f0, .bool x.f1, .int .i64 x.f2, .string x.f3] := by
  obtain ⟨_, _, rfl, rfl, ⟨_, _, rfl, rfl, ⟨_, _, rfl, rfl, rfl⟩⟩⟩ := h
  exact rfl
theorem k36_mkM (w : World) (base : Nat) (ok : Nat → Prop) (x : S36)  : k36.M w base ok x [.int .i64 x.f0, .bool x.f1, .int .i64 x.f2, .string x.f3] := ⟨[.int .i64 x.f0], [.bool x.f1, .int .i64 x.f2, .string x.f3], rfl, rfl, ⟨[.bool x.f1], [.int .i64 x.f2, .string x.f3], rfl, rfl, ⟨[.int .i64 x.f2], [.string x.f3], rfl, rfl, rfl⟩⟩⟩
def rd_T36 (xs : List S36) (i : Int) : S36 := xs.getD i.toNat z36
theorem at_T36 {w : World} {A : Option Addr} {n : Nat} {xs : List S36} (h : Kd.C k36 w A n xs) (i : Int) (h0 : 0 ≤ i) (h1 : i < n) : ∃ ad , A = some ad ∧ w.cell? (ad.add (i.toNat * 4)) = some (.int .i64 (rd_T36 xs i).f0) ∧ w.cell? ⟨(ad.add (i.toNat * 4)).block, (ad.add (i.toNat * 4)).off + 1, none⟩ = some (.bool (rd_T36 xs i).f1) ∧ w.cell? ⟨(ad.add (i.toNat * 4)).block, (ad.add (i.toNat * 4)).off + 2, none⟩ = some (.int .i64 (rd_T36 xs i).f2) ∧ w.cell? ⟨(ad.add (i.toNat * 4)).block, (ad.add (i.toNat * 4)).off + 3, none⟩ = some (.string (rd_T36 xs i).f3) := by
  obtain ⟨ad, c, e, _, hK, hc0⟩ := Kd.C_get h z36 i h0 h1
  have hc : ∀ j u, c[j]? = some u → w.cell? (ad.add (i.toNat * 4 + j)) = some u := hc0
  obtain rfl := k36_open hK
  exact ⟨ad, e, hc 0 _ rfl, by rw [← add_field _ _ 1 (by omega)]; exact hc 1 _ rfl, by rw [← add_field _ _ 2 (by omega)]; exact hc 2 _ rfl, by rw [← add_field _ _ 3 (by omega)]; exact hc 3 _ rfl⟩

/-! #### struct type 34 -/
structure S34 where
  f0 : S31
  f1 : (List S36)
  f2 : Int
def z34 : S34 := ⟨z31, ([] : List S36), (0 : Int)⟩
def k34 : Kd S34 := Kd.iso (Kd.pair k31 (Kd.pair (Kd.slice 36 k36) (Kd.int .u64))) (fun x : S34 => (x.f0, x.f1, x.f2))
theorem k34_heap : Kd.Heap k34 := Kd.heap_iso _ (Kd.heap_pair k31_heap (Kd.heap_pair (Kd.heap_slice 36 k36_heap) (Kd.heap_int .u64)))
theorem k34_open {w : World} {x : S34} {cs : List Value} (h : k34.K w x cs) : ∃ A2 c2, cs = [.int .u64 x.f0.f0, .int .u32 x.f0.f1, .slice A2 x.f1.length c2, .int .u64 x.f2] ∧ x.f1.length ≤ c2 ∧ k36.C w A2 x.f1.length x.f1 := by
  obtain ⟨_, _, rfl, s0, ⟨_, _, rfl, ⟨A2, c2, rfl, l2, g2⟩, rfl⟩⟩ := h
  obtain rfl := k31_open s0
  exact ⟨A2, c2, rfl, l2, g2⟩
theorem k34_openM {w : World} {base : Nat} {ok : Nat → Prop} {x : S34} {cs : List Value} (h : k34.M w base ok x cs) : ∃ v2, cs = [.int .u64 x.f0.f0, .int .u32 x.f0.f1, v2, .int .u64 x.f2] ∧ k36.R 36 w base ok v2 x.f1 := by
  obtain ⟨_, _, rfl, s0, ⟨_, _, rfl, ⟨v2, rfl, g2⟩, rfl⟩⟩ := h
  obtain rfl := k31_openM s0
  exact ⟨v2, rfl, g2⟩
theorem k34_mk (w : World) (x : S34) {A2 : Option Addr} {c2 : Nat} (l2 : x.f1.length ≤ c2) (g2 : k36.C w A2 x.f1.length x.f1) : k34.K w x [.int .u64 x.f0.f0, .int .u32 x.f0.f1, .slice A2 x.f1.length c2, .int .u64 x.f2] := ⟨[.int .u64 x.f0.f0, .int .u32 x.f0.f1], [.slice A2 x.f1.length c2, .int .u64 x.f2], rfl, (k31_mk w x.f0 ), ⟨[.slice A2 x.f1.length c2], [.int .u64 x.f2], rfl, ⟨A2, c2, rfl, l2, g2⟩, rfl⟩⟩
theorem k34_mkM (w : World) (base : Nat) (ok : Nat → Prop) (x : S34) {v2 : Value} (g2 : k36.R 36 w base ok v2 x.f1) : k34.M w base ok x [.int .u64 x.f0.f0, .int .u32 x.f0.f1, v2, .int .u64 x.f2] := ⟨[.int .u64 x.f0.f0, .int .u32 x.f0.f1], [v2, .int .u64 x.f2], rfl, (k31_mkM w base ok x.f0 ), ⟨[v2], [.int .u64 x.f2], rfl, ⟨v2, rfl, g2⟩, rfl⟩⟩
theorem k34_openF {W : World} {ok : Nat → Prop} {x : S34} {cs : List Value} (h : Kd.FK k34 W ok x cs) : ∃ A2 c2, cs = [.int .u64 x.f0.f0, .int .u32 x.f0.f1, .slice A2 x.f1.length c2, .int .u64 x.f2] ∧ x.f1.length ≤ c2 ∧ Kd.F k36 W ok A2 x.f1.length x.f1 := by
  obtain ⟨A2, c2, rfl, l2, _⟩ := k34_open (Kd.FK_now h)
  exact ⟨A2, c2, rfl, l2, (fun W' hW => by obtain ⟨A2_, c2_, he, l2_, g2_⟩ := k34_open (h W' hW); injection (Option.some.inj (show some (Value.slice A2 x.f1.length c2) = some (Value.slice A2_ x.f1.length c2_) from congrArg (fun l => l[2]?) he)) with ha_ _ _; rw [ha_]; exact g2_)⟩
theorem k34_mkF (W : World) (ok : Nat → Prop) (x : S34) {A2 : Option Addr} {c2 : Nat} (l2 : x.f1.length ≤ c2) (g2 : Kd.F k36 W ok A2 x.f1.length x.f1) : Kd.FK k34 W ok x [.int .u64 x.f0.f0, .int .u32 x.f0.f1, .slice A2 x.f1.length c2, .int .u64 x.f2] := fun W2 hW => k34_mk W2 x l2 (g2 W2 hW)
def rd_T34 (xs : List S34) (i : Int) : S34 := xs.getD i.toNat z34
theorem at_T34 {w : World} {A : Option Addr} {n : Nat} {xs : List S34} (h : Kd.C k34 w A n xs) (i : Int) (h0 : 0 ≤ i) (h1 : i < n) : ∃ ad A2 c2, A = some ad ∧ w.cell? (ad.add (i.toNat * 4)) = some (.int .u64 (rd_T34 xs i).f0.f0) ∧ w.cell? ⟨(ad.add (i.toNat * 4)).block, (ad.add (i.toNat * 4)).off + 1, none⟩ = some (.int .u32 (rd_T34 xs i).f0.f1) ∧ w.cell? ⟨(ad.add (i.toNat * 4)).block, (ad.add (i.toNat * 4)).off + 2, none⟩ = some (.slice A2 (rd_T34 xs i).f1.length c2) ∧ w.cell? ⟨(ad.add (i.toNat * 4)).block, (ad.add (i.toNat * 4)).off + 3, none⟩ = some (.int .u64 (rd_T34 xs i).f2) ∧ (rd_T34 xs i).f1.length ≤ c2 ∧ k36.C w A2 (rd_T34 xs i).f1.length (rd_T34 xs i).f1 := by
  obtain ⟨ad, c, e, _, hK, hc0⟩ := Kd.C_get h z34 i h0 h1
  have hc : ∀ j u, c[j]? = some u → w.cell? (ad.add (i.toNat * 4 + j)) = some u := hc0
  obtain ⟨A2, c2, rfl, l2, g2⟩ := k34_open hK
  exact ⟨ad, A2, c2, e, hc 0 _ rfl, by rw [← add_field _ _ 1 (by omega)]; exact hc 1 _ rfl, by rw [← add_field _ _ 2 (by omega)]; exact hc 2 _ rfl, by rw [← add_field _ _ 3 (by omega)]; exact hc 3 _ rfl, l2, g2⟩

/-! #### struct type 50 -/
structure S50 where
  f0 : Int
  f1 : Int
def z50 : S50 := ⟨(0 : Int), (0 : Int)⟩
def k50 : Kd S50 := Kd.iso (Kd.pair (Kd.int .i64) (Kd.int .i64)) (fun x : S50 => (x.f0, x.f1))
theorem k50_open {w : World} {x : S50} {cs : List Value} (h : k50.K w x cs) : cs = [.int .i64 x.f0, .int .i64 x.f1] := by
  obtain ⟨_, _, rfl, rfl, rfl⟩ := h
  exact rfl
theorem k50_mkM (w : World) (base : Nat) (ok : Nat → Prop) (x : S50)  : k50.M w base ok x [.int .i64 x.f0, .int .i64 x.f1] := ⟨[.int .i64 x.f0], [.int .i64 x.f1], rfl, rfl, rfl⟩
def rd_T50 (xs : List S50) (i : Int) : S50 := xs.getD i.toNat z50
theorem at_T50 {w : World} {A : Option Addr} {n : Nat} {xs : List S50} (h : Kd.C k50 w A n xs) (i : Int) (h0 : 0 ≤ i) (h1 : i < n) : ∃ ad , A = some ad ∧ w.cell? (ad.add (i.toNat * 2)) = some (.int .i64 (rd_T50 xs i).f0) ∧ w.cell? ⟨(ad.add (i.toNat * 2)).block, (ad.add (i.toNat * 2)).off + 1, none⟩ = some (.int .i64 (rd_T50 xs i).f1) := by
  obtain ⟨ad, c, e, _, hK, hc0⟩ := Kd.C_get h z50 i h0 h1
  have hc : ∀ j u, c[j]? = some u → w.cell? (ad.add (i.toNat * 2 + j)) = some u := hc0
  obtain rfl := k50_open hK
  exact ⟨ad, e, hc 0 _ rfl, by rw [← add_field _ _ 1 (by omega)]; exact hc 1 _ rfl⟩

/-! #### struct type 66 -/
structure S66 where
  f0 : S50
  f1 : (List S34)
def z66 : S66 := ⟨z50, ([] : List S34)⟩
def k66 : Kd S66 := Kd.iso (Kd.pair k50 (Kd.slice 34 k34)) (fun x : S66 => (x.f0, x.f1))
theorem k66_open {w : World} {x : S66} {cs : List Value} (h : k66.K w x cs) : ∃ A2 c2, cs = [.int .i64 x.f0.f0, .int .i64 x.f0.f1, .slice A2 x.f1.length c2] ∧ x.f1.length ≤ c2 ∧ k34.C w A2 x.f1.length x.f1 := by
  obtain ⟨_, _, rfl, s0, ⟨A2, c2, rfl, l2, g2⟩⟩ := h
  obtain rfl := k50_open s0
  exact ⟨A2, c2, rfl, l2, g2⟩
def rd_T66 (xs : List S66) (i : Int) : S66 := xs.getD i.toNat z66
theorem at_T66 {w : World} {A : Option Addr} {n : Nat} {xs : List S66} (h : Kd.C k66 w A n xs) (i : Int) (h0 : 0 ≤ i) (h1 : i < n) : ∃ ad A2 c2, A = some ad ∧ w.cell? (ad.add (i.toNat * 3)) = some (.int .i64 (rd_T66 xs i).f0.f0) ∧ w.cell? ⟨(ad.add (i.toNat * 3)).block, (ad.add (i.toNat * 3)).off + 1, none⟩ = some (.int .i64 (rd_T66 xs i).f0.f1) ∧ w.cell? ⟨(ad.add (i.toNat * 3)).block, (ad.add (i.toNat * 3)).off + 2, none⟩ = some (.slice A2 (rd_T66 xs i).f1.length c2) ∧ (rd_T66 xs i).f1.length ≤ c2 ∧ k34.C w A2 (rd_T66 xs i).f1.length (rd_T66 xs i).f1 := by
  obtain ⟨ad, c, e, _, hK, hc0⟩ := Kd.C_get h z66 i h0 h1
  have hc : ∀ j u, c[j]? = some u → w.cell? (ad.add (i.toNat * 3 + j)) = some u := hc0
  obtain ⟨A2, c2, rfl, l2, g2⟩ := k66_open hK
  exact ⟨ad, A2, c2, e, hc 0 _ rfl, by rw [← add_field _ _ 1 (by omega)]; exact hc 1 _ rfl, by rw [← add_field _ _ 2 (by omega)]; exact hc 2 _ rfl, l2, g2⟩

end Go.Proofs.Ytfepfpcilmaojaa.QV
/- Maps whose elements are taken as they lie (no memory behind them is looked at): what a block holds, as a function of keys. -/
namespace Go.Proofs.Ytfepfpcilmaojaa.Mp
open Go Go.Maps Go.RowKit
open Go.ChangeMaps (setBlock heap_setBlock_same)
set_option linter.unusedVariables false
set_option linter.unusedSimpArgs false

/-- A key type whose values are told by α. -/
structure KeyTy (P : Program) (t : TypeId) (α : Type) where
  val : α → Value
  ok : α → Prop
  law : Keyed P t
  of : ∀ a, ok a → ∃ l, keyOf P t (val a) = some l
  inv : ∀ v l, keyOf P t v = some l → ∃ a, ok a ∧ v = val a
  inj : ∀ a b, val a = val b → a = b

/-- A list without repeats that lies in another one is no longer. -/
theorem nodup_le {β : Type} : ∀ {l L : List β}, l.Nodup → (∀ x ∈ l, x ∈ L) → l.length ≤ L.length
  | [], _, _, _ => by simp
  | x :: l, L, hn, hs => by
    classical
    obtain ⟨h1, h2⟩ := List.nodup_cons.1 hn
    have hx : x ∈ L := hs x (by simp)
    have h := nodup_le (L := L.erase x) h2 (fun y hy => by
      have hne : y ≠ x := fun e => h1 (by rw [← e]; exact hy)
      exact (List.mem_erase_of_ne hne).2 (hs y (by simp [hy])))
    rw [List.length_erase_of_mem hx] at h
    have := List.length_pos_of_mem hx
    simp only [List.length_cons]
    omega

section
variable {P : Program} {t : TypeId} {α : Type} (κ : KeyTy P t α)

noncomputable def KeyTy.lit (a : α) : Lit := (keyOf P t (κ.val a)).getD (.bool false)
theorem KeyTy.is {a : α} (h : κ.ok a) : keyOf P t (κ.val a) = some (κ.lit a) := by
  obtain ⟨l, hl⟩ := κ.of a h
  simp [KeyTy.lit, hl]
theorem KeyTy.isKey {a : α} (h : κ.ok a) : WideAt.IsKeyLit (κ.lit a) := κ.law.key (κ.is h)
theorem KeyTy.lit_inj {a b : α} (ha : κ.ok a) (hb : κ.ok b) (h : κ.lit a = κ.lit b) : a = b :=
  κ.inj _ _ (κ.law.inj (κ.is ha) (by rw [h]; exact κ.is hb))
theorem KeyTy.same {a b : α} (ha : κ.ok a) (hb : κ.ok b) [DecidableEq α] : (κ.lit a).sameKey (κ.lit b) = decide (a = b) := by
  by_cases h : a = b
  · subst h; rw [WideAt.sameKey_self (κ.isKey ha)]; simp
  · rw [sameKey_ne (fun e => h (κ.lit_inj ha hb e))]; simp [h]

/-- An element, as it lies. -/
def raw (v : Value) : Option (DataW Value × List MemPlace) := some (.held v, [])
theorem raw_inv {v : Value} {y : DataW Value × List MemPlace} (h : raw v = some y) : y = (.held v, []) := (Option.some.inj h).symm

/-- What the datum tells at each key. -/
def DIs (D : DataW Value) (f : α → Option Value) : Prop := IsMap D ∧ ∀ a, κ.ok a → ∀ z, D.atKey (κ.lit a) z = (f a).elim z .held
variable {κ}
theorem DIs.at_ {D : DataW Value} {f : α → Option Value} (h : DIs κ D f) {a : α} (ha : κ.ok a) (z : DataW Value) : D.atKey (κ.lit a) z = (f a).elim z .held := h.2 a ha z
theorem DIs.has_ {D : DataW Value} {f : α → Option Value} (h : DIs κ D f) {a : α} (ha : κ.ok a) : Maps.has D (κ.lit a) = (f a).isSome := by
  cases hf : f a with
  | none => exact has_false_of_atKey (fun z => by rw [h.at_ ha, hf]; rfl)
  | some v => exact has_true_of_atKey (y := .held v) (fun z => by rw [h.at_ ha, hf]; rfl)
theorem DIs.empty : DIs κ (.map []) (fun _ => none) := ⟨isMap_empty, fun a _ z => rfl⟩
section
variable [DecidableEq α]
def upd (f : α → Option Value) (a : α) (o : Option Value) : α → Option Value := fun b => if b = a then o else f b
theorem DIs.put_ {D : DataW Value} {f : α → Option Value} (h : DIs κ D f) {a : α} (ha : κ.ok a) (v : Value) : DIs κ (D.put (κ.lit a) (.held v)) (upd f a (some v)) := by
  refine ⟨h.1.put _ _, fun b hb z => ?_⟩
  by_cases e : b = a
  · subst e
    rw [atKey_put_same h.1 (κ.isKey ha)]; simp [upd]
  · rw [atKey_put_other (fun h' => e (κ.lit_inj hb ha h')), h.at_ hb]; simp [upd, e]
theorem DIs.del_ {D : DataW Value} {f : α → Option Value} (h : DIs κ D f) {a : α} (ha : κ.ok a) : DIs κ (D.del (κ.lit a)) (upd f a none) := by
  refine ⟨h.1.del _, fun b hb z => ?_⟩
  by_cases e : b = a
  · subst e
    rw [atKey_del_same]; simp [upd]
  · rw [atKey_del_other (fun h' => e (κ.lit_inj hb ha h')), h.at_ hb]; simp [upd, e]
end
theorem DIs.congr {D : DataW Value} {f g : α → Option Value} (h : DIs κ D f) (e : ∀ a, κ.ok a → f a = g a) : DIs κ D g := ⟨h.1, fun a ha z => by rw [h.at_ ha, e a ha]⟩
end

section
variable {P : Program} {t : TypeId} {α : Type}

/-- BLOCK b IS A MAP of at most n entries, told by f. -/
def MapIs (κ : KeyTy P t α) (w : World) (b n : Nat) (f : α → Option Value) : Prop := ∃ D, w.ownsMap P t raw b n D ∧ DIs κ D f
variable {κ : KeyTy P t α} {w w' : World} {b n : Nat} {f g : α → Option Value}

theorem MapIs.congr (h : MapIs κ w b n f) (e : ∀ a, κ.ok a → f a = g a) : MapIs κ w b n g := let ⟨D, h1, h2⟩ := h; ⟨D, h1, h2.congr e⟩
theorem MapIs.mono (h : MapIs κ w b n f) {m : Nat} (hm : n ≤ m) : MapIs κ w b m f := let ⟨D, h1, h2⟩ := h; ⟨D, h1.mono hm, h2⟩
theorem MapIs.lt (h : MapIs κ w b n f) : b < w.heap.size := let ⟨_, h1, _⟩ := h; h1.lt
theorem MapIs.made (w : World) : MapIs κ (w.alloc (.map #[] 0)) w.heap.size 0 (fun _ => none) := ⟨_, World.ownsMap_made _ _ _ _, DIs.empty⟩
theorem MapIs.at (h : MapIs κ w b n f) (e : w'.heap[b]? = w.heap[b]?) : MapIs κ w' b n f := by
  obtain ⟨D, ⟨es, clock, hb, hr⟩, h2⟩ := h
  exact ⟨D, ⟨es, clock, e.trans hb, hr⟩, h2⟩
theorem MapIs.below (h : MapIs κ w b n f) (hb : Below w.heap.size w w') : MapIs κ w' b n f := h.at (hb.block b h.lt)
/-- The bound is what is in it. -/
theorem MapIs.bound (h : MapIs κ w b n f) (L : List α) (hL : ∀ a, κ.ok a → f a ≠ none → a ∈ L) : MapIs κ w b L.length f := by
  obtain ⟨D, ⟨es, clock, hb, F, hs, rfl⟩, hD⟩ := h
  refine ⟨_, ⟨es, clock, hb, F, ?_, rfl⟩, hD⟩
  have hap := Maps.fit_apart κ.law F
  -- each entry's key is one of L
  have hk : ∀ x ∈ es.toList, ∃ a, a ∈ L ∧ κ.ok a ∧ (WideElems.rg P t raw x).1 = κ.lit a := by
    intro x hx
    obtain ⟨y, hy⟩ := F.reads x hx
    have hkey := WideElems.rd_key hy
    obtain ⟨a, ha, hv⟩ := κ.inv _ _ hkey
    have hl : y.1 = κ.lit a := by rw [hv, κ.is ha] at hkey; exact (Option.some.inj hkey).symm
    refine ⟨a, hL a ha (fun hn => ?_), ha, by rw [WideElems.rg_of hy, hl]⟩
    have hh := hD.has_ ha
    rw [hn] at hh
    have : Maps.has (DataW.map ((es.toList.map (WideElems.rg P t raw)).foldr DataW.insert [])) (κ.lit a) = true :=
      List.any_eq_true.2 ⟨WideElems.rg P t raw x, mem_sorted.2 (List.mem_map.2 ⟨x, hx, rfl⟩), by rw [WideElems.rg_of hy, hl]; exact WideAt.sameKey_self (κ.isKey ha)⟩
    rw [this] at hh
    cases hh
  have h2 : ((es.toList.map (WideElems.rg P t raw)).map (·.1)).Nodup := by
    rw [List.Nodup, List.pairwise_map]
    exact hap
  have h3 : ∀ l ∈ (es.toList.map (WideElems.rg P t raw)).map (·.1), l ∈ L.map κ.lit := by
    intro l hl
    obtain ⟨p, hp, rfl⟩ := List.mem_map.1 hl
    obtain ⟨x, hx, rfl⟩ := List.mem_map.1 hp
    obtain ⟨a, ha, _, e⟩ := hk x hx
    exact List.mem_map.2 ⟨a, ha, e.symm⟩
  have h4 := nodup_le h2 h3
  simpa using h4

theorem MapIs.look {tm e : TypeId} (h : MapIs κ w b n f) (ht : P.underlying tm = some (.map t e)) {z : Value} (hz : (zeroValue e).run P w = .ok z w) {a : α} (ha : κ.ok a) :
    (Instr.lookup tm (.map (some b)) (κ.val a) true).run P w = .ok (.tuple #[(f a).getD z, .bool (f a).isSome]) w := by
  obtain ⟨D, h1, h2⟩ := h
  obtain ⟨v, ps, hr, hv⟩ := h1.look_ok κ.law ht hz (zd := .held z) (zp := []) rfl (κ.is ha)
  rw [h2.has_ ha] at hr
  have := raw_inv hv
  rw [h2.at_ ha] at this
  cases hf : f a with
  | none => rw [hf] at this hr; cases this; exact hr
  | some u => rw [hf] at this hr; cases this; exact hr
theorem MapIs.look1 {tm e : TypeId} (h : MapIs κ w b n f) (ht : P.underlying tm = some (.map t e)) {z : Value} (hz : (zeroValue e).run P w = .ok z w) {a : α} (ha : κ.ok a) :
    (Instr.lookup tm (.map (some b)) (κ.val a) false).run P w = .ok ((f a).getD z) w := by
  obtain ⟨D, h1, h2⟩ := h
  obtain ⟨v, ps, hr, hv⟩ := h1.lookup κ.law ht hz (zd := .held z) (zp := []) rfl (κ.is ha)
  have := raw_inv hv
  rw [h2.at_ ha] at this
  cases hf : f a with
  | none => rw [hf] at this; cases this; exact hr
  | some u => rw [hf] at this; cases this; exact hr
theorem MapIs.put_ [DecidableEq α] {tm e : TypeId} (h : MapIs κ w b n f) (ht : P.underlying tm = some (.map t e)) (hn : n < maxLen) {a : α} (ha : κ.ok a) (v : Value) :
    ∃ w', (Instr.mapUpdate tm (.map (some b)) (κ.val a) v).run P w = .ok () w' ∧ MapIs κ w' b (n + 1) (upd f a (some v)) ∧ w.mapTurned w' b := by
  obtain ⟨D, h1, h2⟩ := h
  obtain ⟨w', hr, h3, h4⟩ := h1.store κ.law ht hn (κ.is ha) (hv := (rfl : raw v = some (.held v, [])))
  exact ⟨w', hr, ⟨_, h3, h2.put_ ha v⟩, h4⟩

/-- 'range m' under way: which keys are still to come, how many. -/
def RangeIs (κ : KeyTy P t α) (w : World) (b r n : Nat) (f : α → Option Value) (todo : α → Bool) (cnt : Nat) : Prop :=
  ∃ D left, w.ranges P t raw b r n D left cnt ∧ DIs κ D f ∧ ∀ a, κ.ok a → left (κ.lit a) = todo a
variable {r cnt : Nat} {todo : α → Bool}
theorem RangeIs.map (h : RangeIs κ w b r n f todo cnt) : MapIs κ w b n f := let ⟨D, left, h1, h2, _⟩ := h; ⟨D, h1.owns, h2⟩
theorem RangeIs.left_eq (h : RangeIs κ w b r n f todo cnt) : w.rangeLeft b r = cnt := let ⟨D, left, h1, _⟩ := h; h1.left_eq
theorem RangeIs.kept {row : Option Nat} (h : RangeIs κ w b r n f todo cnt) (hg : w.grownBy w' row) (hb' : some b ≠ row) (hr' : some r ≠ row) : RangeIs κ w' b r n f todo cnt := let ⟨D, left, h1, h2⟩ := h; ⟨D, left, h1.kept hg hb' hr', h2⟩
theorem RangeIs.lt (h : RangeIs κ w b r n f todo cnt) : r < w.heap.size := let ⟨D, left, h1, _⟩ := h; h1.lt
theorem RangeIs.ne (h : RangeIs κ w b r n f todo cnt) : r ≠ b := let ⟨D, left, h1, _⟩ := h; h1.ne
theorem RangeIs.at (h : RangeIs κ w b r n f todo cnt) (e1 : w'.heap[b]? = w.heap[b]?) (e2 : w'.heap[r]? = w.heap[r]?) : RangeIs κ w' b r n f todo cnt := by
  obtain ⟨D, left, ⟨es, clock, since, seen, c0, hb, F, hs, hD, hr, rest⟩, h2⟩ := h
  exact ⟨D, left, ⟨es, clock, since, seen, c0, e1.trans hb, F, hs, hD, e2.trans hr, rest⟩, h2⟩
theorem RangeIs.congr (h : RangeIs κ w b r n f todo cnt) (e : ∀ a, κ.ok a → f a = g a) : RangeIs κ w b r n g todo cnt := let ⟨D, left, h1, h2, h3⟩ := h; ⟨D, left, h1, h2.congr e, h3⟩
theorem MapIs.range {tm e : TypeId} (h : MapIs κ w b n f) (ht : P.underlying tm = some (.map t e)) :
    ∃ w', (Instr.range tm (.map (some b))).run P w = .ok (.pointer (some ⟨w.heap.size, 0, none⟩)) w' ∧ (∃ cnt, cnt ≤ n ∧ RangeIs κ w' b w.heap.size n f (fun a => (f a).isSome) cnt) ∧ w.grownBy w' none ∧ w'.heap.size = w.heap.size + 1 := by
  obtain ⟨D, h1, h2⟩ := h
  obtain ⟨w', hr, h3, h4, h5⟩ := h1.range κ.law ht
  exact ⟨w', hr, ⟨_, h1.size_le, D, _, h3, h2, fun a ha => h2.has_ ha⟩, h4, h5⟩
theorem RangeIs.next [DecidableEq α] (h : RangeIs κ w b r n f todo cnt) (ty : TypeId) :
    (cnt = 0 ∧ (∀ a, κ.ok a → todo a = false) ∧ (Instr.next (.pointer (some ⟨r, 0, none⟩)) false ty).run P w = .ok (.tuple #[.bool false]) w) ∨
    ∃ a v w' cnt', κ.ok a ∧ todo a = true ∧ f a = some v ∧ (Instr.next (.pointer (some ⟨r, 0, none⟩)) false ty).run P w = .ok (.tuple #[.bool true, κ.val a, v]) w' ∧
      RangeIs κ w' b r n f (fun z => todo z && !decide (z = a)) cnt' ∧ cnt' < cnt ∧ w.grownBy w' (some r) ∧ w'.heap.size = w.heap.size ∧ (Instr.entry (.pointer (some ⟨r, 0, none⟩))).run P w' = .ok (.tuple #[κ.val a, v]) w' := by
  obtain ⟨D, left, h1, h2, h3⟩ := h
  rcases h1.next κ.law ty with ⟨h0, hl, hrun⟩ | ⟨key, v, kl, y, w', cnt', hkey, hlk, hv, hat, hrun, hrg, hlt, hgr, hsz, hen⟩
  · exact .inl ⟨h0, fun a ha => by rw [← h3 a ha]; exact hl _, hrun⟩
  · obtain ⟨a, ha, rfl⟩ := κ.inv _ _ hkey
    obtain rfl : κ.lit a = kl := by rw [κ.is ha] at hkey; exact Option.some.inj hkey
    have hy := raw_inv hv
    subst hy
    refine .inr ⟨a, v, w', cnt', ha, by rw [← h3 a ha]; exact hlk, ?_, hrun, ⟨D, _, hrg, h2, fun z hz => by rw [h3 z hz, κ.same hz ha]⟩, hlt, hgr, hsz, hen⟩
    have := hat .nil
    rw [h2.at_ ha] at this
    cases hf : f a with
    | none => rw [hf] at this; cases this
    | some u => rw [hf] at this; simp at this; rw [this]
end
section
open Go.WideElems (Fit rd rg rg_of rd_key rd_mk)
variable {P : Program} {t : TypeId} {α : Type} {κ : KeyTy P t α} {w w' : World} {b n r cnt : Nat} {f : α → Option Value} {todo : α → Bool}
theorem RangeIs.drop [DecidableEq α] {tm e : TypeId} (h : RangeIs κ w b r n f todo cnt) (ht : P.underlying tm = some (.map t e)) {a : α} (ha : κ.ok a) (ty : TypeId) :
    ∃ w' cnt', (Builtin.delete_ #[tm, t] ty #[.map (some b), κ.val a]).run P w = .ok (.tuple #[]) w' ∧ RangeIs κ w' b r n (upd f a none) (fun z => todo z && !decide (z = a)) cnt' ∧ cnt' ≤ cnt ∧ w.mapTurned w' b := by
  obtain ⟨D, left, h1, h2, h3⟩ := h
  obtain ⟨w', cnt', hr, h4, h5, h6⟩ := h1.drop κ.law ht (κ.is ha) ty
  exact ⟨w', cnt', hr, ⟨_, _, h4, h2.del_ ha, fun z hz => by rw [h3 z hz, κ.same hz ha]⟩, h5, h6⟩
theorem MapIs.drop [DecidableEq α] {tm e : TypeId} (h : MapIs κ w b n f) (ht : P.underlying tm = some (.map t e)) {a : α} (ha : κ.ok a) (ty : TypeId) :
    ∃ w', (Builtin.delete_ #[tm, t] ty #[.map (some b), κ.val a]).run P w = .ok (.tuple #[]) w' ∧ MapIs κ w' b n (upd f a none) ∧ w.mapTurned w' b := by
  obtain ⟨D, h1, h2⟩ := h
  obtain ⟨w', hr, h3, h4⟩ := h1.drop κ.law ht (κ.is ha) ty
  exact ⟨w', hr, ⟨_, h3, h2.del_ ha⟩, h4⟩
/-- A store at a key that is there, into the map that is ranged over. -/
theorem RangeIs.put_ [DecidableEq α] {tm e : TypeId} (h : RangeIs κ w b r n f todo cnt) (ht : P.underlying tm = some (.map t e)) (hn : n < maxLen) {a : α} (ha : κ.ok a) (hin : (f a).isSome = true) (v : Value) :
    ∃ w', (Instr.mapUpdate tm (.map (some b)) (κ.val a) v).run P w = .ok () w' ∧ RangeIs κ w' b r n (upd f a (some v)) todo cnt ∧ w.mapTurned w' b := by
  obtain ⟨D, left, h1, h2, h3⟩ := h
  have hne := h1.ne
  have hkey := κ.is ha
  have hh := h2.has_ ha
  rw [hin] at hh
  obtain ⟨w1, hr1, hown1, _⟩ := h1.owns.store κ.law ht hn hkey (hv := (rfl : raw v = some (.held v, [])))
  obtain ⟨es, clock, since, seen, c0, hb, F, hs, rfl, hr, hold, hcnt, hl1, hl2, hsc, hsk⟩ := h1
  rcases κ.law.find w hkey es.toList F.keys with ⟨_, f2⟩ | ⟨j, e0, f1, f2, f3⟩
  · exfalso
    obtain ⟨p, hp, hpk⟩ := List.any_eq_true.1 hh
    obtain ⟨x, hx, rfl⟩ := List.mem_map.1 (mem_sorted.1 hp)
    obtain ⟨y, hy⟩ := F.reads x hx
    have e1 := WideAt.sameKey_eq hpk
    rw [rg_of hy] at e1
    have hxk := rd_key hy
    rw [e1] at hxk
    exact f2 x hx (κ.law.inj hxk hkey)
  · have hrun : (Instr.mapUpdate tm (.map (some b)) (κ.val a) v).run P w = .ok () (setBlock w b (.map (es.modify j fun e' => { e' with key := κ.val a, val := v }) clock)) := by
      have hj : es[j]? = some e0 := by simpa using f2
      simp [Instr.mapUpdate, run_underlying ht, MapKept.run_getObj_map hb, κ.law.check w false hkey, f1, hj, f3, κ.law.stays w hkey, MapKept.run_setObj_map _ hb, Result.andThen, setBlock]
    obtain rfl : w1 = setBlock w b (.map (es.modify j fun e' => { e' with key := κ.val a, val := v }) clock) := by
      rw [hr1] at hrun
      exact (Result.ok.inj hrun).2
    have hlist : (es.modify j (fun e' => { e' with key := κ.val a, val := v })).toList = es.toList.set j { e0 with key := κ.val a, val := v } := by rw [Array.toList_modify, ChangeMaps.modify_eq_set _ _ _ _ f2]
    have hjl : j < es.toList.length := (List.getElem?_eq_some_iff.1 f2).1
    have hej : es.toList[j] = e0 := (List.getElem?_eq_some_iff.1 f2).2
    -- each entry has one of before with its stamp and its key, and the other way round
    have back : ∀ x ∈ es.toList.set j { e0 with key := κ.val a, val := v }, ∃ y ∈ es.toList, y.key = x.key ∧ y.born = x.born := by
      intro x hx
      obtain ⟨i, hi, rfl⟩ := List.getElem_of_mem hx
      rw [List.length_set] at hi
      refine ⟨es.toList[i], List.getElem_mem hi, ?_⟩
      rw [List.getElem_set]
      split
      · rename_i e; subst e; rw [hej]; exact ⟨f3, rfl⟩
      · exact ⟨rfl, rfl⟩
    have forth : ∀ y ∈ es.toList, ∃ x ∈ es.toList.set j { e0 with key := κ.val a, val := v }, y.key = x.key ∧ y.born = x.born := by
      intro y hy
      obtain ⟨i, hi, rfl⟩ := List.getElem_of_mem hy
      refine ⟨(es.toList.set j { e0 with key := κ.val a, val := v })[i]'(by rw [List.length_set]; exact hi), List.getElem_mem _, ?_⟩
      rw [List.getElem_set]
      split
      · rename_i e; subst e; rw [hej]; exact ⟨f3, rfl⟩
      · exact ⟨rfl, rfl⟩
    have hbk : (setBlock w b (.map (es.modify j fun e' => { e' with key := κ.val a, val := v }) clock)).heap[b]? = some (.map (es.modify j fun e' => { e' with key := κ.val a, val := v }) clock) := heap_setBlock_same hb _
    obtain ⟨es2, clock2, hb2, F2, hs2, hD2⟩ := hown1
    rw [hbk] at hb2
    obtain ⟨rfl, rfl⟩ : _ = es2 ∧ clock = clock2 := by simpa using hb2
    -- the keys read alike
    have rgk : ∀ x ∈ es.toList.set j { e0 with key := κ.val a, val := v }, ∀ y ∈ es.toList, y.key = x.key → (rg P t raw x).1 = (rg P t raw y).1 := by
      intro x hx y hy e
      obtain ⟨zx, hzx⟩ := F2.reads x (by rw [hlist]; exact hx)
      obtain ⟨zy, hzy⟩ := F.reads y hy
      have k1 := rd_key hzx
      have k2 := rd_key hzy
      rw [e, k1] at k2
      rw [rg_of hzx, rg_of hzy]
      exact Option.some.inj k2
    refine ⟨_, hrun, ⟨_, left, ⟨_, clock, since, seen, c0, hbk, F2, by simpa using hs, hD2, (ChangeMaps.heap_setBlock_other hb _ hne).trans hr, ?_, ?_, ?_, ?_, hsc, hsk⟩, h2.put_ ha v, h3⟩, ⟨es, clock, _, clock, hb, rfl⟩⟩
    · intro x hx
      rw [hlist] at hx
      obtain ⟨y, hy, _, e2⟩ := back x hx
      rw [← e2]; exact hold y hy
    · rw [← hcnt]
      have e1 : ∀ a : Array MapEntry, (leftOf a seen).size = ((a.toList.map (·.born)).filter fun e => !seen.contains e).length := fun a => by
        unfold leftOf
        rw [← Array.length_toList, Array.toList_filter, List.filter_map, List.length_map]
        rfl
      rw [e1, e1, hlist]
      have : (es.toList.set j { e0 with key := κ.val a, val := v }).map (·.born) = es.toList.map (·.born) := by
        rw [List.map_set]
        refine List.ext_getElem (by simp) (fun i h1 h2 => ?_)
        rw [List.getElem_set]
        split
        · rename_i e; subst e; simp [hej]
        · rfl
      rw [this]
    · intro x hx
      rw [hlist] at hx
      obtain ⟨y, hy, e1, e2⟩ := back x hx
      rw [rgk x hx y hy e1, hl1 y hy, e2]
    · intro kl hkl
      obtain ⟨y, hy, e⟩ := hl2 kl hkl
      obtain ⟨x, hx, e1, e2⟩ := forth y hy
      exact ⟨x, by rw [hlist]; exact hx, (rgk x hx y hy e1).trans e⟩
theorem MapIs.len {tm e : TypeId} (h : MapIs κ w b n f) (ht : P.underlying tm = some (.map t e)) (ty : TypeId) : ∃ m : Nat, m ≤ n ∧ (Builtin.len_ #[tm] ty #[.map (some b)]).run P w = .ok (.int .i64 m) w ∧
    ∀ L : List α, L.Nodup → (∀ a ∈ L, κ.ok a) → (∀ a, κ.ok a → ((f a).isSome = true ↔ a ∈ L)) → m = L.length := by
  obtain ⟨D, h1, h2⟩ := h
  refine ⟨_, h1.size_le, h1.len ht ty, fun L hn hok hL => ?_⟩
  refine Nat.le_antisymm ?_ ?_
  · have hb : MapIs κ w b n f := ⟨D, h1, h2⟩
    obtain ⟨D', h1', h2'⟩ := hb.bound L (fun a ha hne => (hL a ha).1 (by cases hf : f a with | none => exact absurd hf hne | some _ => rfl))
    have e1 := h1'.size_le
    obtain ⟨es, clock, hbk, F, hs, rfl⟩ := h1
    obtain ⟨es', clock', hbk', F', hs', rfl⟩ := h1'
    rw [hbk] at hbk'
    obtain ⟨rfl, rfl⟩ : es = es' ∧ clock = clock' := by simpa using hbk'
    exact e1
  · obtain ⟨es, clock, hbk, F, hs, rfl⟩ := h1
    have e2 : Maps.size (DataW.map ((es.toList.map (rg P t raw)).foldr DataW.insert [])) = ((es.toList.map (rg P t raw)).map (·.1)).length := by simp [Maps.size, length_sorted]
    rw [e2, ← List.length_map (f := κ.lit)]
    refine nodup_le ?_ (fun l hl => ?_)
    · rw [List.Nodup, List.pairwise_map]
      exact hn.imp_of_mem (fun {a c} ha hc hne e => hne (κ.lit_inj (hok a ha) (hok c hc) e))
    · obtain ⟨a, ha, rfl⟩ := List.mem_map.1 hl
      have hh := h2.has_ (hok a ha)
      rw [(hL a (hok a ha)).2 ha] at hh
      obtain ⟨p, hp, hpk⟩ := List.any_eq_true.1 hh
      exact List.mem_map.2 ⟨p, mem_sorted.1 hp, WideAt.sameKey_eq hpk⟩
end

/-! ### at the operation -/
section
variable {P : Program} {t : TypeId} {α : Type} {κ : KeyTy P t α} (w : World) {ops : Array Oper} {rest : List Oper} {o : Oper} {act : Act} {Q : Exit → Act → World → Prop} {b n r cnt : Nat} {f : α → Option Value} {todo : α → Bool}
theorem wpList_look_map (hg : o.guard = none) (m x : Operand) (tm : TypeId) (hop : o.op = Op.lookup tm m x true) (e : TypeId) (ht : P.underlying tm = some (.map t e)) (hm : act.eval m = .map (some b)) (h : MapIs κ w b n f) {z : Value} (hz : (zeroValue e).run P w = .ok z w) (a : α) (ha : κ.ok a) (hx : act.eval x = κ.val a)
    (hK : wpList P ops Q rest (act.put o.dst (.tuple #[(f a).getD z, .bool (f a).isSome])) w) : wpList P ops Q (o :: rest) act w := by
  refine wpList_plain hg fun K' hK' => ?_
  unfold Oper.wp
  simp [execOp, hop, hm, hx, h.look ht hz ha, Result.andThen]
  exact hK' _ _ hK
theorem wpList_look1_map (hg : o.guard = none) (m x : Operand) (tm : TypeId) (hop : o.op = Op.lookup tm m x false) (e : TypeId) (ht : P.underlying tm = some (.map t e)) (hm : act.eval m = .map (some b)) (h : MapIs κ w b n f) {z : Value} (hz : (zeroValue e).run P w = .ok z w) (a : α) (ha : κ.ok a) (hx : act.eval x = κ.val a)
    (hK : wpList P ops Q rest (act.put o.dst ((f a).getD z)) w) : wpList P ops Q (o :: rest) act w := by
  refine wpList_plain hg fun K' hK' => ?_
  unfold Oper.wp
  simp [execOp, hop, hm, hx, h.look1 ht hz ha, Result.andThen]
  exact hK' _ _ hK
theorem wpList_put_map [DecidableEq α] (hg : o.guard = none) (m x v : Operand) (tm : TypeId) (hop : o.op = Op.mapUpdate tm m x v) (e : TypeId) (ht : P.underlying tm = some (.map t e)) (hm : act.eval m = .map (some b)) (h : MapIs κ w b n f) (hn : n < maxLen) (a : α) (ha : κ.ok a) (hx : act.eval x = κ.val a) (u : Value) (hv : act.eval v = u)
    (hK : ∀ w', MapIs κ w' b (n + 1) (upd f a (some u)) → w.mapTurned w' b → wpList P ops Q rest (act.put o.dst undef) w') : wpList P ops Q (o :: rest) act w := by
  refine wpList_plain hg fun K' hK' => ?_
  obtain ⟨w', hr, r1, r2⟩ := h.put_ ht hn ha u
  unfold Oper.wp
  simp [execOp, hop, hm, hx, hv, hr, Result.andThen]
  exact hK' _ _ (hK w' r1 r2)
theorem wpList_put_range [DecidableEq α] (hg : o.guard = none) (m x v : Operand) (tm : TypeId) (hop : o.op = Op.mapUpdate tm m x v) (e : TypeId) (ht : P.underlying tm = some (.map t e)) (hm : act.eval m = .map (some b)) (h : RangeIs κ w b r n f todo cnt) (hn : n < maxLen) (a : α) (ha : κ.ok a) (hin : (f a).isSome = true) (hx : act.eval x = κ.val a) (u : Value) (hv : act.eval v = u)
    (hK : ∀ w', RangeIs κ w' b r n (upd f a (some u)) todo cnt → w.mapTurned w' b → wpList P ops Q rest (act.put o.dst undef) w') : wpList P ops Q (o :: rest) act w := by
  refine wpList_plain hg fun K' hK' => ?_
  obtain ⟨w', hr, r1, r2⟩ := h.put_ ht hn ha hin u
  unfold Oper.wp
  simp [execOp, hop, hm, hx, hv, hr, Result.andThen]
  exact hK' _ _ (hK w' r1 r2)
theorem wpList_drop_range [DecidableEq α] (hg : o.guard = none) (m x : Operand) (tm : TypeId) (hop : o.op = Op.call { callee := Callee.builtin Builtin.delete, args := #[m, x], argTypes := #[tm, t] }) (e : TypeId) (ht : P.underlying tm = some (.map t e)) (hm : act.eval m = .map (some b)) (h : RangeIs κ w b r n f todo cnt) (a : α) (ha : κ.ok a) (hx : act.eval x = κ.val a)
    (hK : ∀ w' cnt', RangeIs κ w' b r n (upd f a none) (fun z => todo z && !decide (z = a)) cnt' → cnt' ≤ cnt → w.mapTurned w' b → wpList P ops Q rest (act.put o.dst (.tuple #[])) w') : wpList P ops Q (o :: rest) act w := by
  refine wpList_plain hg fun K' hK' => ?_
  obtain ⟨w', cnt', hr, r1, r2, r3⟩ := h.drop ht ha o.type
  unfold Oper.wp
  simp [execOp, hop, resolve, invoke, builtin, hm, hx, hr, Result.andThen]
  exact hK' _ _ (hK w' cnt' r1 r2 r3)
theorem wpList_range_map (hg : o.guard = none) (m : Operand) (tm : TypeId) (hop : o.op = Op.range tm m) (e : TypeId) (ht : P.underlying tm = some (.map t e)) (hm : act.eval m = .map (some b)) (h : MapIs κ w b n f)
    (hK : ∀ w' cnt, RangeIs κ w' b w.heap.size n f (fun a => (f a).isSome) cnt → cnt ≤ n → w.grownBy w' none → w'.heap.size = w.heap.size + 1 → wpList P ops Q rest (act.put o.dst (.pointer (some ⟨w.heap.size, 0, none⟩))) w') : wpList P ops Q (o :: rest) act w := by
  refine wpList_plain hg fun K' hK' => ?_
  obtain ⟨w', hr, ⟨cnt, hc, h1⟩, h2, h3⟩ := h.range ht
  unfold Oper.wp
  simp [execOp, hop, hm, hr, Result.andThen]
  exact hK' _ _ (hK w' cnt h1 hc h2 h3)
theorem wpList_next_map [DecidableEq α] (hg : o.guard = none) (it : Operand) (hop : o.op = Op.next it false) (hit : act.eval it = .pointer (some ⟨r, 0, none⟩)) (h : RangeIs κ w b r n f todo cnt)
    (hDone : cnt = 0 → (∀ a, κ.ok a → todo a = false) → wpList P ops Q rest (act.put o.dst (.tuple #[.bool false])) w)
    (hMore : ∀ (a : α) (v : Value) (w' : World) (cnt' : Nat), κ.ok a → todo a = true → f a = some v → RangeIs κ w' b r n f (fun z => todo z && !decide (z = a)) cnt' → cnt' < cnt → w.grownBy w' (some r) → w'.heap.size = w.heap.size →
      (Instr.entry (.pointer (some ⟨r, 0, none⟩))).run P w' = .ok (.tuple #[κ.val a, v]) w' → wpList P ops Q rest (act.put o.dst (.tuple #[.bool true, κ.val a, v])) w') : wpList P ops Q (o :: rest) act w := by
  refine wpList_plain hg fun K' hK' => ?_
  unfold Oper.wp
  rcases h.next o.type with ⟨h0, hl, hrun⟩ | ⟨a, v, w', cnt', ha, htd, hf, hrun, hrg, hlt, hgr, hsz, hen⟩
  · simp [execOp, hop, hit, hrun, Result.andThen]
    exact hK' _ _ (hDone h0 hl)
  · simp [execOp, hop, hit, hrun, Result.andThen]
    exact hK' _ _ (hMore a v w' cnt' ha htd hf hrg hlt hgr hsz hen)
end
section
variable {F : Fence} {nn : Nat} {P : Program} {t : TypeId} {α : Type} {κ : KeyTy P t α} (w : World) {ops : Array Oper} {rest : List Oper} {o : Oper} {act : Act} {Q : Exit → Act → World → Prop} {b n r cnt : Nat} {f : α → Option Value} {todo : α → Bool}
theorem wpListIn_range_map (hg : o.guard = none) (m : Operand) (tm : TypeId) (hop : o.op = Op.range tm m) (e : TypeId) (ht : P.underlying tm = some (.map t e)) (hm : act.eval m = .map (some b)) (h : MapIs κ w b n f)
    (hK : ∀ w' cnt, RangeIs κ w' b w.heap.size n f (fun a => (f a).isSome) cnt → cnt ≤ n → w.grownBy w' none → w'.heap.size = w.heap.size + 1 → wpListIn F nn P ops Q rest (act.put o.dst (.pointer (some ⟨w.heap.size, 0, none⟩))) w') : wpListIn F nn P ops Q (o :: rest) act w := by
  refine wpListIn_plain hg fun K' hK' => ?_
  obtain ⟨w', hr, ⟨cnt, hc, h1⟩, h2, h3⟩ := h.range ht
  unfold Oper.wpIn
  refine ⟨by simp [Oper.about, hop], ?_⟩
  rw [Oper.semAt_plain F _ _ (by rw [hop]; intro c hc'; cases hc')]
  simp [execOp, hop, hm, hr, Result.andThen]
  exact hK' _ _ (hK w' cnt h1 hc h2 h3)
theorem wpListIn_next_map [DecidableEq α] (hg : o.guard = none) (it : Operand) (hop : o.op = Op.next it false) (hit : act.eval it = .pointer (some ⟨r, 0, none⟩)) (h : RangeIs κ w b r n f todo cnt)
    (hDone : cnt = 0 → (∀ a, κ.ok a → todo a = false) → wpListIn F nn P ops Q rest (act.put o.dst (.tuple #[.bool false])) w)
    (hMore : ∀ (a : α) (v : Value) (w' : World) (cnt' : Nat), κ.ok a → todo a = true → f a = some v → RangeIs κ w' b r n f (fun z => todo z && !decide (z = a)) cnt' → cnt' < cnt → w.grownBy w' (some r) → w'.heap.size = w.heap.size →
      (Instr.entry (.pointer (some ⟨r, 0, none⟩))).run P w' = .ok (.tuple #[κ.val a, v]) w' → wpListIn F nn P ops Q rest (act.put o.dst (.tuple #[.bool true, κ.val a, v])) w') : wpListIn F nn P ops Q (o :: rest) act w := by
  refine wpListIn_plain hg fun K' hK' => ?_
  unfold Oper.wpIn
  refine ⟨by simp [Oper.about, hop], ?_⟩
  rw [Oper.semAt_plain F _ _ (by rw [hop]; intro c hc'; cases hc')]
  rcases h.next o.type with ⟨h0, hl, hrun⟩ | ⟨a, v, w', cnt', ha, htd, hf, hrun, hrg, hlt, hgr, hsz, hen⟩
  · simp [execOp, hop, hit, hrun, Result.andThen]
    exact hK' _ _ (hDone h0 hl)
  · simp [execOp, hop, hit, hrun, Result.andThen]
    exact hK' _ _ (hMore a v w' cnt' ha htd hf hrg hlt hgr hsz hen)
end
end Go.Proofs.Ytfepfpcilmaojaa.Mp
/- Maps keyed by names (api.RowId) whose elements are versions: what a block holds, as a function of names. -/
namespace Go.Proofs.Ytfepfpcilmaojaa.QV
open Go.RowKit Go.Maps Go.Proofs.YtfepfpcilmaojaaW.PrintWords
set_option linter.unusedVariables false
set_option linter.unusedSimpArgs false
set_option maxRecDepth 100000
abbrev tNm : Nat := 31
theorem laidOut : laidOutB Try.prog = true := by kernel_rfl
theorem rowNm : (tNm : TypeId) < Try.prog.types.size := of_decide_eq_true (by kernel_rfl)
theorem wideNm : (match Try.prog.underlying tNm with | some (.array _ _) | some (.struct _) => true | _ => false) = true := by rw [show Try.prog.underlying tNm = _ from Try.underlying31]
theorem lawNm : Keyed Try.prog tNm := Keyed.of_law (deep_law_laid laidOut (m := 2) (by omega) rowNm (by kernel_rfl) wideNm)
abbrev Nm := S31
def Nm.val (k : Nm) : Value := .agg #[.int .u64 k.f0, .int .u32 k.f1]
def Nok (k : Nm) : Prop := (Lit.int .u64 k.f0).wf = true ∧ (Lit.int .u32 k.f1).wf = true
theorem nm_keyType : Try.prog.keyType tNm = true := by kernel_rfl
theorem nm_cells : Try.prog.cellsOf tNm = 2 := by kernel_rfl
theorem nm_c0 : Try.prog.cellsOf 23 = 1 := by kernel_rfl
theorem nm_c1 : Try.prog.cellsOf 29 = 1 := by kernel_rfl
theorem nm_size : ∃ n, Try.prog.types.size = n + 2 := ⟨Try.prog.types.size - 2, by have := rowNm; unfold tNm at this; omega⟩
theorem keyOf_nm (k : Nm) (h : Nok k) : ∃ l, keyOf Try.prog tNm k.val = some l := by
  obtain ⟨n, hn⟩ := nm_size
  have hu : Try.prog.underlying tNm = _ := Try.underlying31
  have hf : (k.val).formed Try.prog tNm = true := by simp [Value.formed, Nm.val, hu, nm_cells]
  have hl : Try.prog.keyLits (Try.prog.types.size + 1) tNm k.val.cells.toList = some [.int .u64 k.f0, .int .u32 k.f1] := by
    rw [hn]
    simp [Program.keyLits, hu, Nm.val, Value.cells, nm_cells, nm_c0, nm_c1, Try.underlying23, Try.underlying29, h.1, h.2]
  exact ⟨_, by simp only [keyOf, hu, nm_keyType, hf, hl]; rfl⟩
theorem keyOf_nm_inv {v : Value} {l : Lit} (h : keyOf Try.prog tNm v = some l) : ∃ k : Nm, Nok k ∧ v = k.val := by
  obtain ⟨n, hn⟩ := nm_size
  have hu : Try.prog.underlying tNm = _ := Try.underlying31
  simp only [keyOf, hu, nm_keyType, Bool.true_and] at h
  split at h
  · rename_i hf
    obtain ⟨ls, hls, _⟩ := Option.map_eq_some_iff.1 h
    cases v with
    | agg cs =>
      simp [Value.formed, hu, nm_cells] at hf
      obtain ⟨cs⟩ := cs
      match cs, hf with
      | [a, b], _ =>
        rw [hn] at hls
        unfold Program.keyLits at hls
        rw [hu] at hls
        simp [Value.cells, nm_cells, nm_c0, nm_c1] at hls
        simp only [Option.bind_eq_some_iff] at hls
        obtain ⟨la, hla, hr⟩ := hls
        simp only [Function.comp, Option.map_eq_some_iff, Option.bind_eq_some_iff] at hr
        obtain ⟨_, ⟨_, ⟨lb, hlb, _⟩, _⟩, _⟩ := hr
        obtain ⟨x, hx, rfl⟩ := keyLits_int' Try.underlying23 hla
        obtain ⟨y, hy, rfl⟩ := keyLits_int' Try.underlying29 hlb
        obtain rfl : a = _ := by simpa using hx
        obtain rfl : b = _ := by simpa using hy
        simp [Program.keyLits, Try.underlying23] at hla
        simp [Program.keyLits, Try.underlying29] at hlb
        exact ⟨⟨x, y⟩, ⟨hla, hlb⟩, rfl⟩
    | _ => simp [Value.formed, hu] at hf
  · cases h
theorem Nm.ext' {a b : Nm} (h0 : a.f0 = b.f0) (h1 : a.f1 = b.f1) : a = b := by
  cases a; cases b; simp only at h0 h1; rw [h0, h1]
instance : DecidableEq Nm := fun a b => if h : a.f0 = b.f0 ∧ a.f1 = b.f1 then isTrue (Nm.ext' h.1 h.2) else isFalse (fun e => h (by rw [e]; exact ⟨rfl, rfl⟩))
theorem Nm.val_inj (a b : Nm) (h : a.val = b.val) : a = b := by
  simp only [Nm.val] at h
  injection h with h
  simp at h
  exact Nm.ext' h.1 h.2
def nmK : Mp.KeyTy Try.prog tNm Nm := ⟨Nm.val, Nok, lawNm, keyOf_nm, fun v l h => keyOf_nm_inv h, Nm.val_inj⟩
theorem nmK_val (k : Nm) : nmK.val k = .agg #[.int .u64 k.f0, .int .u32 k.f1] := rfl
abbrev Ver := S34
abbrev kVer : Kd Ver := k34
abbrev kS : Kd S36 := k36
abbrev tS : Nat := 36
abbrev tVer : Nat := 34
abbrev tMap : Nat := 52
/-- The value u is the version x, in world w. -/
def VerAt (w : World) (u : Value) (x : Ver) : Prop := ∃ A c, u = .agg #[.int .u64 x.f0.f0, .int .u32 x.f0.f1, .slice A x.f1.length c, .int .u64 x.f2] ∧ x.f1.length ≤ c ∧ kS.C w A x.f1.length x.f1
theorem VerAt.below {w w' : World} {u : Value} {x : Ver} (h : VerAt w u x) (hb : Below w.heap.size w w') : VerAt w' u x := let ⟨A, c, h1, h2, h3⟩ := h; ⟨A, c, h1, h2, Kd.C_below h3 hb⟩
/-- The elements that f has are the versions that F has. -/
def FIs (w : World) (f : Nm → Option Value) (F : Nm → Option Ver) : Prop := ∀ k, Nok k → (F k = none ∧ f k = none) ∨ ∃ u x, f k = some u ∧ F k = some x ∧ VerAt w u x
theorem FIs.below {w w' : World} {f : Nm → Option Value} {F : Nm → Option Ver} (h : FIs w f F) (hb : Below w.heap.size w w') : FIs w' f F := fun k hk => (h k hk).imp id (fun ⟨u, x, h1, h2, h3⟩ => ⟨u, x, h1, h2, h3.below hb⟩)
theorem FIs.some_ {w : World} {f : Nm → Option Value} {F : Nm → Option Ver} (h : FIs w f F) {k : Nm} (hk : Nok k) : (f k).isSome = (F k).isSome := by
  rcases h k hk with ⟨h1, h2⟩ | ⟨u, x, h1, h2, _⟩
  · rw [h1, h2]; rfl
  · rw [h1, h2]; rfl
theorem FIs.get {w : World} {f : Nm → Option Value} {F : Nm → Option Ver} (h : FIs w f F) {k : Nm} (hk : Nok k) {u : Value} (hu : f k = some u) : ∃ x, F k = some x ∧ VerAt w u x := by
  rcases h k hk with ⟨h1, h2⟩ | ⟨u', x, h1, h2, h3⟩
  · rw [h2] at hu; cases hu
  · rw [h1] at hu; cases hu; exact ⟨x, h2, h3⟩
def updV (F : Nm → Option Ver) (k : Nm) (o : Option Ver) : Nm → Option Ver := fun z => if z = k then o else F z
theorem FIs.upd_ {w : World} {f : Nm → Option Value} {F : Nm → Option Ver} (h : FIs w f F) (k : Nm) {u : Value} {x : Ver} (hx : VerAt w u x) : FIs w (Mp.upd f k (some u)) (updV F k (some x)) := fun z hz => by
  by_cases e : z = k
  · subst e; exact .inr ⟨u, x, by simp [Mp.upd], by simp [updV], hx⟩
  · have e1 : Mp.upd f k (some u) z = f z := by simp [Mp.upd, e]
    have e2 : updV F k (some x) z = F z := by simp [updV, e]
    rw [e1, e2]; exact h z hz
theorem FIs.del_ {w : World} {f : Nm → Option Value} {F : Nm → Option Ver} (h : FIs w f F) (k : Nm) : FIs w (Mp.upd f k none) (updV F k none) := fun z hz => by
  by_cases e : z = k
  · subst e; exact .inl ⟨by simp [updV], by simp [Mp.upd]⟩
  · have e1 : Mp.upd f k none z = f z := by simp [Mp.upd, e]
    have e2 : updV F k none z = F z := by simp [updV, e]
    rw [e1, e2]; exact h z hz
theorem FIs.congr {w : World} {f : Nm → Option Value} {F G : Nm → Option Ver} (h : FIs w f F) (e : ∀ k, Nok k → F k = G k) : FIs w f G := fun k hk => by rw [← e k hk]; exact h k hk
/-- Block b is a map of versions, by their names. -/
def MapV (w : World) (b n : Nat) (F : Nm → Option Ver) : Prop := ∃ f, Mp.MapIs nmK w b n f ∧ FIs w f F
theorem MapV.below {w w' : World} {b n : Nat} {F : Nm → Option Ver} (h : MapV w b n F) (hb : Below w.heap.size w w') : MapV w' b n F := let ⟨f, h1, h2⟩ := h; ⟨f, h1.at (hb.block b h1.lt), h2.below hb⟩
theorem MapV.congr {w : World} {b n : Nat} {F G : Nm → Option Ver} (h : MapV w b n F) (e : ∀ k, Nok k → F k = G k) : MapV w b n G := let ⟨f, h1, h2⟩ := h; ⟨f, h1, h2.congr e⟩
theorem zeroVer (w : World) : (zeroValue tVer).run Try.prog w = .ok (.agg #[.int .u64 0, .int .u32 0, .slice none 0 0, .int .u64 0]) w := by kernel_rfl
/-- A map turned, all else as it was. -/
theorem turned_below {w w1 w2 : World} {b : Nat} (h : Below w.heap.size w w1) (ht : w1.mapTurned w2 b) (hb : w.heap.size ≤ b) : Below w.heap.size w w2 := h.grown ht.grown h.size (fun k e => by cases e; exact hb)
/-- The first version of each name. -/
def firstOf (l : List Ver) (k : Nm) : Option Ver := l.find? (fun v => decide (v.f0 = k))
theorem firstOf_snoc (l : List Ver) (x : Ver) : firstOf (l ++ [x]) = if (firstOf l x.f0).isSome then firstOf l else updV (firstOf l) x.f0 (some x) := by
  funext k
  unfold firstOf updV
  rw [List.find?_append]
  split
  · rename_i h
    by_cases e : k = x.f0
    · subst e
      obtain ⟨v, hv⟩ := Option.isSome_iff_exists.1 h
      simp [hv]
    · have : List.find? (fun v => decide (v.f0 = k)) [x] = none := by simp [Ne.symm e]
      rw [this]; simp
  · rename_i h
    by_cases e : k = x.f0
    · subst e
      have h0 : List.find? (fun v => decide (v.f0 = x.f0)) l = none := by simpa using h
      rw [h0]; simp
    · have : List.find? (fun v => decide (v.f0 = k)) [x] = none := by simp [Ne.symm e]
      rw [this]; simp [e]
end Go.Proofs.Ytfepfpcilmaojaa.QV
/- XRound outside a round (printed from XRound): one condition S on the world for the whole region; what yields its value in every world that meets S is taken first. -/
namespace Go.Proofs.Ytfepfpcilmaojaa.SeqW
open Go Go.RowKit
set_option linter.unusedVariables false

abbrev Rn (l : Nat) : Fence := Fence.wide
theorem calls_in (l n : Nat) {P : Program} {f : FuncId} {args : Array Value} {w : World} {R : Ending → World → Prop} (h : Calls P f args w R) : CallsIn (Rn l) n P f args w R :=
  callsIn_wide.2 h
theorem rows_in (l n : Nat) {P : Program} {row : String} {args : Array Value} {w : World} {R : Value → World → Prop} (h : Rows P row args w R) : RowsIn (Rn l) n P row args w R := by
  intro c cs _
  obtain ⟨v, w', r, s⟩ := h c cs
  exact ⟨v, w', r, stepsIn_wide.2 s⟩
/-- An operation that is no deferred call, carried out in a round, goes as anywhere. -/
theorem op_in (l n : Nat) {P : Program} {o : Oper} {a : Act} {w : World} {K : Act → World → Prop} {Q : Exit → Act → World → Prop} (hnd : ∀ c, o.op ≠ .defer c) (h : o.wp P a w K Q) : o.wpIn (Rn l) n P a w K Q := by
  refine ⟨fun _ _ => trivial, ?_⟩
  unfold Oper.wp at h
  rw [show (Rn l).round = none from rfl, Oper.semAt_none]
  generalize (execOp a.eval o).run P w = r at h
  cases r with
  | ok x w' =>
    cases x <;> simp only [Oper.upon, Oper.uponIn] at h ⊢
    case value v => exact h
    case skip => exact h
    case defer d => exact h
    case enter f args => exact ⟨(fun h => by cases h), calls_in l _ h⟩
    case row row args => exact ⟨(fun h => by cases h), rows_in l _ h⟩
  | halt x w' => cases x <;> simp only [Oper.upon, Oper.uponIn] at h ⊢; exact h

section
variable {l : Nat} {P : Program} {ops : Array Oper} {Q : Exit → Act → World → Prop} {S : World → Prop} {d : Nat}
def noDefer (ops : Array Oper) : Bool := ops.toList.all fun o => match o.op with | .defer _ => false | _ => true
theorem noDefer_spec (h : noDefer ops = true) (j : Nat) (o : Oper) (ho : ops[j]? = some o) : ∀ c, o.op ≠ .defer c := by
  intro c e
  have hm : o ∈ ops.toList := by
    have := Array.mem_of_getElem? ho
    simpa using this
  have := List.all_eq_true.1 h o hm
  rw [e] at this
  simp at this

/-- Number d waits for number i. -/
def waitsOn (ops : Array Oper) (d i : Nat) : Bool := match ops[d]? with
  | some o => o.after.toList.any (fun e => Region.binds .any e && e.on == i)
  | none => true
/-- S is to hold behind each operation but number d. -/
def wpAnyR (l : Nat) (P : Program) (ops : Array Oper) (Q : Exit → Act → World → Prop) (S : World → Prop) (d : Nat) : Nat → Array Bool → Act → World → Prop
  | 0, listed, a, w => Region.ready .any ops listed = [] ∧ Q .normal a w
  | fuel + 1, listed, a, w => (Region.ready .any ops listed = [] → Q .normal a w) ∧
    ∀ i ∈ Region.ready .any ops listed, wpOpIn (Rn l) 0 P ops Q i (fun a' w' => (i = d ∨ S w') ∧ wpAnyR l P ops Q S d fuel (listed.setIfInBounds i true) a' w') a w
theorem wpAnyIn_of_R : ∀ (fuel : Nat) (listed : Array Bool) (a : Act) (w : World), wpAnyR l P ops Q S d fuel listed a w → wpAnyIn (Rn l) 0 P .any ops Q fuel listed a w
  | 0, _, _, _, h => h
  | fuel + 1, _, _, _, h => ⟨h.1, fun i hi => wpOpIn_mono (fun a' w' h' => wpAnyIn_of_R fuel _ a' w' h'.2) (h.2 i hi)⟩
theorem YieldsIf.wpOpR {i : Nat} {o : Oper} {v : Value} {a : Act} (hnd : noDefer ops = true) (hi : ops[i]? = some o) (hy : YieldsIf P ops S o v a) {K : Act → World → Prop} {w : World} (hS : S w) (h : K (a.put o.dst v) w) : wpOpIn (Rn l) 0 P ops Q i K a w := by
  unfold Go.wpOpIn
  simp only [hi]
  rcases hy with ⟨hw, hv⟩ | ⟨hw, rfl⟩
  · simp only [hw, if_true]
    exact op_in l 0 (noDefer_spec hnd i o hi) (by simp only [Oper.wp, hv w hS, Oper.upon]; exact h)
  · simp only [hw, Bool.false_eq_true, if_false]; exact ⟨fun _ _ => trivial, h⟩
theorem wpOpR_putIf {j : Nat} {oi oj : Oper} {v : Value} (hnd : noDefer ops = true) (hj : ops[j]? = some oj) (hap : oi.apart ops oj = true)
    (hsi : ∀ cs b, oi.op ≠ .select cs b) (hsj : ∀ cs b, oj.op ≠ .select cs b)
    (hQ : ∀ c a w, Q (.panic c) (a.put oi.dst v) w → Q (.panic c) a w) {K : Act → World → Prop} {a : Act} {w : World}
    (hy : YieldsIf P ops S oi v a) (h : wpOpIn (Rn l) 0 P ops Q j K (a.put oi.dst v) w) :
    wpOpIn (Rn l) 0 P ops Q j (fun a' w' => YieldsIf P ops S oi v a' ∧ K (a'.put oi.dst v) w') a w := by
  have hnj := noDefer_spec hnd j oj hj
  obtain ⟨h1, h2, h3⟩ := Oper.apart_spec hap
  have keep : ∀ (a : Act), YieldsIf P ops S oi v a → ∀ u, YieldsIf P ops S oi v (a.put oj.dst u) := fun a hy u =>
    hy.of_same (execOp_put oi hsi a oj.dst u h3) (wanted_put oi a oj.dst u h3)
  have keepD : ∀ d, YieldsIf P ops S oi v { a with defers := d :: a.defers } := fun d => hy.of_same rfl rfl
  unfold wpOpIn at *
  simp only [hj] at *
  rw [wanted_put oj a oi.dst v h1] at h
  split
  · rename_i hw
    simp only [hw, if_true] at h
    unfold Oper.wpIn at *
    refine ⟨fun _ _ => trivial, ?_⟩
    have h := h.2
    rw [show (Rn l).round = none from rfl, Oper.semAt_none] at h ⊢
    rw [execOp_put oj hsj a oi.dst v h1] at h
    generalize (execOp a.eval oj).run P w = r at *
    cases r with
    | ok x w' =>
      cases x <;> simp only [Oper.uponIn] at h ⊢
      case value u => exact ⟨keep a hy u, by rw [← Act.put_comm a v u h2]; exact h⟩
      case skip => exact ⟨keep a hy _, by rw [← Act.put_comm a v undef h2]; exact h⟩
      case defer d =>
        refine ⟨keep _ (keepD d) _, ?_⟩
        rw [← Act.put_comm _ v undef h2, ← Act.put_defers]
        exact h
      case enter f args =>
        refine ⟨h.1, CallsIn.mono h.2 fun e w'' he => ?_⟩
        cases e with
        | returned u => exact ⟨keep a hy u, by rw [← Act.put_comm a v u h2]; exact he⟩
        | panicked c => exact hQ _ _ _ he
        | outgrown => exact he
      case row row args => exact ⟨h.1, RowsIn.mono h.2 fun u w'' he => ⟨keep a hy u, by rw [← Act.put_comm a v u h2]; exact he⟩⟩
      case round l f tmps assign body =>
        refine ⟨h.1, RoundIn.mono h.2 fun e w'' he => ?_⟩
        cases e with
        | returned u => exact ⟨keep a hy u, by rw [← Act.put_comm a v u h2]; exact he⟩
        | panicked c => exact hQ _ _ _ he
        | outgrown => exact he
    | halt x w' =>
      cases x <;> simp only [Oper.uponIn] at h ⊢
      case panic u => exact hQ _ _ _ h
  · rename_i hw
    simp only [hw] at h
    exact ⟨fun _ _ => trivial, keep a hy _, by rw [← Act.put_comm a v undef h2]; exact h.2⟩
theorem wpAnyR_first {i : Nat} {oi : Oper} {v : Value} (hnd : noDefer ops = true) (hwd : waitsOn ops d i = true) (hi : ops[i]? = some oi) (hsel : ∀ (j : Nat) (o : Oper) cs b, ops[j]? = some o → o.op ≠ .select cs b)
    (hQ : ∀ c a w, Q (.panic c) (a.put oi.dst v) w → Q (.panic c) a w) :
    ∀ (fuel : Nat) (listed : Array Bool) (a : Act) (w : World),
      (∀ j oj, ops[j]? = some oj → j ≠ i → listed.getD j true = false → (∀ e ∈ oj.after, Region.binds .any e = true → e.on ≠ i) → oi.apart ops oj = true) →
      i ∈ Region.ready .any ops listed → YieldsIf P ops S oi v a → S w →
      wpAnyR l P ops Q S d fuel (listed.setIfInBounds i true) (a.put oi.dst v) w → wpAnyR l P ops Q S d (fuel + 1) listed a w := by
  intro fuel
  induction fuel with
  | zero =>
    intro listed a w _ hr hy hS H
    refine ⟨fun h => (by rw [h] at hr; cases hr), fun j hj => ?_⟩
    by_cases hji : j = i
    · subst hji; exact YieldsIf.wpOpR hnd hi hy hS ⟨.inr hS, H⟩
    · have := ready_mono hj hji
      rw [H.1] at this
      cases this
  | succ fuel ih =>
    intro listed a w hfree hr hy hS H
    refine ⟨fun h => (by rw [h] at hr; cases hr), fun j hj => ?_⟩
    by_cases hji : j = i
    · subst hji; exact YieldsIf.wpOpR hnd hi hy hS ⟨.inr hS, H⟩
    · have h1 := H.2 j (ready_mono hj hji)
      obtain ⟨hjun, oj, hoj, hall⟩ := mem_ready.1 hj
      have hnot : ∀ e ∈ oj.after, Region.binds .any e = true → e.on ≠ i := fun e he hb heq => by
        have h1 := hall e he hb
        have h0 := (mem_ready.1 hr).1
        rw [heq] at h1
        rcases Nat.lt_or_ge i listed.size with h' | h'
        · simp [h'] at h0 h1; rw [h0] at h1; cases h1
        · simp [Array.getElem?_eq_none h'] at h1
      have h2 := wpOpR_putIf hnd hoj (hfree j oj hoj hji hjun hnot) (fun cs b => hsel i oi cs b hi) (fun cs b => hsel j oj cs b hoj) hQ hy h1
      have hfree' : ∀ k ok, ops[k]? = some ok → k ≠ i → (listed.setIfInBounds j true).getD k true = false →
          (∀ e ∈ ok.after, Region.binds .any e = true → e.on ≠ i) → oi.apart ops ok = true := fun k ok hk hki hun hno => by
        refine hfree k ok hk hki ?_ hno
        by_cases hjk : j = k
        · subst hjk; exact hjun
        · rw [getD_set_ne true hjk] at hun; exact hun
      have hjd : j ≠ d := by
        rintro rfl
        unfold waitsOn at hwd
        rw [hoj] at hwd
        obtain ⟨q, hq, hqb⟩ := List.any_eq_true.1 hwd
        rw [Array.mem_toList_iff] at hq
        rw [Bool.and_eq_true] at hqb
        exact hnot q hq hqb.1 (by simpa using hqb.2)
      refine wpOpIn_mono (fun a' w' h3 => ⟨.inr (h3.2.1.resolve_left hjd), ih (listed.setIfInBounds j true) a' w' hfree' (ready_mono hr (Ne.symm hji)) h3.1 (h3.2.1.resolve_left hjd) ?_⟩) h2
      rw [Array.setIfInBounds_comm _ _ hji]
      exact h3.2.2
/-- Take number i first. -/
theorem wpAnyR_take {i : Nat} {oi : Oper} {v : Value} {fuel : Nat} {listed : Array Bool} {a : Act} {w : World} (hnd : noDefer ops = true) (hwd : waitsOn ops d i = true) (hi : ops[i]? = some oi)
    (hs : Region.noSelect ops = true) (hf : Region.free .any ops listed i = true) (hr : (Region.ready .any ops listed).contains i = true)
    (hQ : ∀ c a w, Q (.panic c) (a.put oi.dst v) w → Q (.panic c) a w) (hy : YieldsIf P ops S oi v a) (hS : S w)
    (h : wpAnyR l P ops Q S d fuel (listed.setIfInBounds i true) (a.put oi.dst v) w) : wpAnyR l P ops Q S d (fuel + 1) listed a w :=
  wpAnyR_first hnd hwd hi (Region.noSelect_spec hs) hQ fuel listed a w (Region.free_spec hi hf) (by simpa using hr) hy hS h
/-- Number i is the only one that may come up: it goes as anywhere. -/
theorem wpAnyR_one {i : Nat} {o : Oper} {fuel : Nat} {listed : Array Bool} {a : Act} {w : World} (hnd : noDefer ops = true) (hr : Region.ready .any ops listed = [i]) (ho : ops[i]? = some o)
    (h : ∀ K' : Act → World → Prop, Shut (∀ a w, (i = d ∨ S w) → wpAnyR l P ops Q S d fuel (listed.setIfInBounds i true) a w → K' a w) → if Region.wanted o (yielded ops a.tmps) = true then Oper.wp P o a w K' Q else K' (a.put o.dst undef) w) :
    wpAnyR l P ops Q S d (fuel + 1) listed a w := by
  refine ⟨fun h0 => (by rw [hr] at h0; cases h0), fun j hj => ?_⟩
  rw [hr] at hj
  obtain rfl := List.mem_singleton.1 hj
  have := h (fun a' w' => (j = d ∨ S w') ∧ wpAnyR l P ops Q S d fuel (listed.setIfInBounds j true) a' w') (fun a w hs hw => ⟨hs, hw⟩)
  unfold Go.wpOpIn
  simp only [ho]
  split
  · rename_i hw; rw [if_pos hw] at this; exact op_in l 0 (noDefer_spec hnd j o ho) this
  · rename_i hw; rw [if_neg hw] at this; exact ⟨fun _ _ => trivial, this⟩
theorem wpAnyR_done {listed : Array Bool} {a : Act} {w : World} (hr : Region.ready .any ops listed = []) (h : Q .normal a w) : ∀ fuel, wpAnyR l P ops Q S d fuel listed a w
  | 0 => ⟨hr, h⟩
  | _ + 1 => ⟨fun _ => h, by rw [hr]; simp⟩
/-- The beginning. -/
theorem wpIn_region_R (d : Nat) {id : Nat} {a : Act} {w : World} (hm : P.follows .mixedOrders = true) (hS : S w.drew)
    (h : S w.drew → wpAnyR l P ops Q S d ops.size (Array.replicate ops.size false) a w.drew) : (Code.region id ops true).wpIn (Rn l) 0 P Q a w :=
  wpIn_region_any hm (wpAnyIn_of_R _ _ _ _ (h hS))
end
end Go.Proofs.Ytfepfpcilmaojaa.SeqW
/- recover.keyed at versions, and once: the first version of each name. -/
namespace Go.Proofs.Ytfepfpcilmaojaa.QV
open Go.RowKit Go.Proofs.YtfepfpcilmaojaaW.PrintWords Go.Proofs.Ytfepfpcilmaojaa.SeqW Go.Proofs.Ytfepfpcilmaojaa.Mp
set_option linter.unusedVariables false
set_option linter.unusedSimpArgs false
set_option maxRecDepth 100000
theorem btr' {a b c : World} (h : Below a.heap.size a b) (k : Below b.heap.size b c) : Below a.heap.size a c := h.trans (k.mono h.size)
theorem wp_at {P : Program} {c : Code} {Q : Exit → Act → World → Prop} {a : Act} {W : World} (S : World → Prop) (h : S W) (k : ∀ W, S W → Code.wp P c Q a W) : Code.wp P c Q a W := k W h
theorem name_any (x : Ver) (A : Option Addr) (c : Nat) (w : World) (h1 : x.f1.length ≤ c) (h2 : kS.C w A x.f1.length x.f1) :
    Calls Try.prog 38 #[.agg #[.int .u64 x.f0.f0, .int .u32 x.f0.f1, .slice A x.f1.length c, .int .u64 x.f2]] w fun e w' => e = .returned (.agg #[.int .u64 x.f0.f0, .int .u32 x.f0.f1]) ∧ Below w.heap.size w w' := by
  go_enter Try.func38, Try.ntmps38
  go_wp2
  go_returns
  exact ⟨rfl, ((Below.refl _ _).alloc (Nat.le_refl _) _).alloc (by simp) _⟩

theorem getD_mem {α : Type} (z : α) {l : List α} {i : Nat} (h : i < l.length) : l.getD i z ∈ l := by
  rw [List.getD_eq_getElem?_getD, List.getElem?_eq_getElem h]; exact List.getElem_mem h
theorem take_snoc' {α : Type} (z : α) (l : List α) (i : Nat) (h : i < l.length) : l.take i ++ [l.getD i z] = l.take (i + 1) := by
  rw [List.take_succ_eq_append_getElem h, List.getD_eq_getElem?_getD, List.getElem?_eq_getElem h]; rfl
/-- The cells of the i-th version. -/
theorem ver_at {w : World} {A : Option Addr} {l : List Ver} (h : kVer.C w A l.length l) (i : Nat) (hi : i < l.length) :
    ∃ ad, A = some ad ∧ w.cell? (ad.add (i * 4)) = some (.int .u64 (l.getD i z34).f0.f0) ∧ w.cell? ⟨(ad.add (i * 4)).block, (ad.add (i * 4)).off + 1, none⟩ = some (.int .u32 (l.getD i z34).f0.f1) ∧
      ∃ Ax cx, w.cell? ⟨(ad.add (i * 4)).block, (ad.add (i * 4)).off + 2, none⟩ = some (.slice Ax (l.getD i z34).f1.length cx) ∧ (l.getD i z34).f1.length ≤ cx ∧ kS.C w Ax (l.getD i z34).f1.length (l.getD i z34).f1 ∧
      w.cell? ⟨(ad.add (i * 4)).block, (ad.add (i * 4)).off + 3, none⟩ = some (.int .u64 (l.getD i z34).f2) := by
  obtain ⟨ad, c, e, hcl, hK, hc⟩ := Kd.C_get h z34 (i : Int) (by omega) (by omega)
  have hx : l.getD (i : Int).toNat z34 = l.getD i z34 := rfl
  rw [hx] at hK
  obtain ⟨A2, c2, rfl, h2, h3⟩ := k34_open hK
  have hs : kVer.sz = 4 := rfl
  have hc' : ∀ j u, [Value.int .u64 (l.getD i z34).f0.f0, .int .u32 (l.getD i z34).f0.f1, .slice A2 (l.getD i z34).f1.length c2, .int .u64 (l.getD i z34).f2][j]? = some u → w.cell? (ad.add (i * 4 + j)) = some u := fun j u hj => by
    have := hc j u hj; rwa [hs, Int.toNat_natCast] at this
  have hf : ∀ j, 0 < j → ad.add (i * 4 + j) = ⟨(ad.add (i * 4)).block, (ad.add (i * 4)).off + j, none⟩ := fun j hj => add_field ad (i * 4) j hj
  exact ⟨ad, e, hc' 0 _ rfl, by rw [← hf 1 (by omega)]; exact hc' 1 _ rfl, A2, c2, by rw [← hf 2 (by omega)]; exact hc' 2 _ rfl, h2, h3, by rw [← hf 3 (by omega)]; exact hc' 3 _ rfl⟩

set_option maxHeartbeats 4000000 in
theorem keyed_any (A : Option Addr) (l : List Ver) (c : Nat) (w0 w : World) (hb0 : Below w0.heap.size w0 w) (hr : kVer.C w0 A l.length l) (hc : l.length ≤ c) (hok : ∀ x ∈ l, Nok x.f0) (hb : l.length < 9223372036854775807) :
    Calls Try.prog 37 #[.slice A l.length c, .func (.func 38) #[] #[]] w fun e w' => e = .returned (.map (some w.heap.size)) ∧ (∃ f, MapIs nmK w' w.heap.size l.length f ∧ FIs w0 f (firstOf l)) ∧ Below w.heap.size w w' := by
  have hmm := @run_makeMap Try.prog
  go_enter Try.func37, Try.ntmps37
  go_wp2
  go_loopw [13] (fun i wr => ∃ k : Nat, k ≤ l.length ∧ i = .int .i64 k ∧ (∃ f, MapIs nmK wr w.heap.size k f ∧ FIs w0 f (firstOf (l.take k))) ∧ Below w.heap.size w wr)
    (fun i _ => l.length - (intOf i).toNat)
  case atStart => exact ⟨0, Nat.zero_le _, rfl, ⟨_, MapIs.made w, fun k _ => .inl ⟨rfl, rfl⟩⟩, (Below.refl _ _).alloc (Nat.le_refl _) _⟩
  case round =>
    obtain ⟨k, hk, rfl, hM, hB⟩ := hrel
    by_cases hlt : k < l.length
    · obtain ⟨ad, e, hc0, hc1, Ax, cx, hc2, hlx, hCw, hc3⟩ := ver_at hr k hlt
      have hBa := btr' hb0 hB
      have hCx := Kd.C_below hCw hBa
      replace hc0 := pw_cell_below hBa hc0
      replace hc1 := pw_cell_below hBa hc1
      replace hc2 := pw_cell_below hBa hc2
      replace hc3 := pw_cell_below hBa hc3
      subst e
      have hx0 := hok _ (getD_mem z34 hlt)
      have hts := take_snoc' z34 l k hlt
      have hfs := firstOf_snoc (l.take k) (l.getD k z34)
      rw [hts] at hfs
      generalize l.getD k z34 = x at *
      obtain ⟨f, hMf, hF⟩ := hM
      have wk : wrap64 ((k : Int) + 1) = k + 1 := by unfold wrap64; omega
      rcases hF x.f0 hx0 with ⟨h1, h2⟩ | ⟨u, y, h1, h2, Ay, cy, rfl, hly, hCy⟩
      · go_wp2_with (first
          | (at_lookup; refine wpList_look_map _ rfl _ _ tMap rfl tVer Try.underlying52 rfl (hMf.below (by repeat (first | exact Below.refl _ _ | apply below_alloc))) (zeroVer _) x.f0 hx0 rfl ?_; simp only [h1, Option.getD_none, Option.isSome_none])
          | go_in)
        refine wp_at (S := fun W => Below wr.heap.size wr W ∧ W.heap[wr.heap.size]? = some (.cells #[.int .u64 x.f0.f0, .int .u32 x.f0.f1, .slice Ax x.f1.length cx, .int .u64 x.f2] tVer (0, 0))) ⟨by repeat (first | exact Below.refl _ _ | apply below_alloc), blk_below (blk_new wr _) (by repeat (first | exact Below.refl _ _ | apply below_alloc))⟩ ?_
        rintro W0 ⟨hB0, hb7⟩
        have S0 : ∀ V, Below W0.heap.size W0 V → V.cell? ⟨wr.heap.size, 0, none⟩ = some (.int .u64 x.f0.f0) ∧ V.cell? ⟨wr.heap.size, 1, none⟩ = some (.int .u32 x.f0.f1) ∧ V.cell? ⟨wr.heap.size, 2, none⟩ = some (.slice Ax x.f1.length cx) ∧ V.cell? ⟨wr.heap.size, 3, none⟩ = some (.int .u64 x.f2) :=
          fun V hV => ⟨blk_cell (blk_below hb7 hV) 0, blk_cell (blk_below hb7 hV) 1, blk_cell (blk_below hb7 hV) 2, blk_cell (blk_below hb7 hV) 3⟩
        refine (wpIn_wide (n := 0)).1 ?_
        refine wpIn_region_R (l := 0) 5 (S := fun V => V.cell? ⟨wr.heap.size, 0, none⟩ = some (.int .u64 x.f0.f0) ∧ V.cell? ⟨wr.heap.size, 1, none⟩ = some (.int .u32 x.f0.f1) ∧ V.cell? ⟨wr.heap.size, 2, none⟩ = some (.slice Ax x.f1.length cx) ∧ V.cell? ⟨wr.heap.size, 3, none⟩ = some (.int .u64 x.f2)) (by kernel_rfl) (S0 _ (below_drew (Below.refl _ _))) (fun hS0 => ?_)
        refine wpAnyR_take (i := 0) (oi := ⟨some 27, _, _, _, _, _⟩) (v := ?_) (by kernel_rfl) (by kernel_rfl) rfl (by kernel_rfl) (by kernel_rfl) (by kernel_rfl) (fun _ _ _ h => h) (Or.inl ⟨by rfl, ?_⟩) (by assumption) ?_
        rotate_left
        · intro w hSw; (try dsimp only at hSw); (try go_split_ands); go_simp; (try (with_reducible rfl))
        (try simp only [Act.put, List.setIfInBounds_toArray, List.set_cons_zero, List.set_cons_succ])
        refine wpAnyR_take (i := 1) (oi := ⟨some 28, _, _, _, _, _⟩) (v := ?_) (by kernel_rfl) (by kernel_rfl) rfl (by kernel_rfl) (by kernel_rfl) (by kernel_rfl) (fun _ _ _ h => h) (Or.inl ⟨by rfl, ?_⟩) (by assumption) ?_
        rotate_left
        · intro w hSw; (try dsimp only at hSw); (try go_split_ands); go_simp; (try (with_reducible rfl))
        (try simp only [Act.put, List.setIfInBounds_toArray, List.set_cons_zero, List.set_cons_succ])
        refine wpAnyR_take (i := 2) (oi := ⟨some 29, _, _, _, _, _⟩) (v := ?_) (by kernel_rfl) (by kernel_rfl) rfl (by kernel_rfl) (by kernel_rfl) (by kernel_rfl) (fun _ _ _ h => h) (Or.inl ⟨by rfl, ?_⟩) (by assumption) ?_
        rotate_left
        · intro w hSw; (try dsimp only at hSw); (try go_split_ands); go_simp; (try (with_reducible rfl))
        (try simp only [Act.put, List.setIfInBounds_toArray, List.set_cons_zero, List.set_cons_succ])
        refine wpAnyR_take (i := 4) (oi := ⟨some 31, _, _, _, _, _⟩) (v := ?_) (by kernel_rfl) (by kernel_rfl) rfl (by kernel_rfl) (by kernel_rfl) (by kernel_rfl) (fun _ _ _ h => h) (Or.inl ⟨by rfl, ?_⟩) (by assumption) ?_
        rotate_left
        · intro w hSw; (try dsimp only at hSw); (try go_split_ands); go_simp; (try (with_reducible rfl))
        (try simp only [Act.put, List.setIfInBounds_toArray, List.set_cons_zero, List.set_cons_succ])
        refine wpAnyR_one (i := 3) (o := ⟨some 30, _, _, _, _, _⟩) (by kernel_rfl) (by kernel_rfl) rfl (fun K hK => ?_)
        go_simp
        refine (name_any x Ax cx _ hlx (Kd.C_drew (Kd.C_below hCx hB0))).mono ?_
        rintro e W1 ⟨rfl, hB1⟩
        have hB01 := btr' (below_drew (Below.refl _ W0)) hB1
        (try dsimp only)
        refine hK.out _ _ (.inr (S0 _ hB01)) ?_
        clear hK K
        (try simp only [Act.put, List.setIfInBounds_toArray, List.set_cons_zero, List.set_cons_succ])
        refine wpAnyR_one (i := 5) (o := ⟨none, _, _, _, _, _⟩) (by kernel_rfl) (by kernel_rfl) rfl (fun K hK => ?_)
        obtain ⟨W2, hr2, hM2, hT2⟩ := ((hMf.below hB0).below hB01).put_ (tm := tMap) (e := tVer) Try.underlying52 (by unfold maxLen; omega) hx0 (.agg #[.int .u64 x.f0.f0, .int .u32 x.f0.f1, .slice Ax x.f1.length cx, .int .u64 x.f2])
        have hr2' : (Instr.mapUpdate tMap (.map (some w.heap.size)) (.agg #[.int .u64 x.f0.f0, .int .u32 x.f0.f1]) (.agg #[.int .u64 x.f0.f0, .int .u32 x.f0.f1, .slice Ax x.f1.length cx, .int .u64 x.f2])).run Try.prog W1 = .ok () W2 := hr2
        go_simp
        refine hK.out _ _ (.inl rfl) ?_
        clear hK K
        (try simp only [Act.put, List.setIfInBounds_toArray, List.set_cons_zero, List.set_cons_succ])
        refine wpAnyR_done (by kernel_rfl) ?_ _
        have hB02 := (hB.trans (hB0.mono hB.size)).trans (hB01.mono (Nat.le_trans hB.size hB0.size))
        have hbw := hMf.lt
        go_wp2
        go_roundw
        case rel =>
          refine ⟨k + 1, by omega, by go_num, ⟨_, hM2, ?_⟩, turned_below hB02 hT2 (Nat.le_refl _)⟩
          rw [hfs, h1, if_neg (by simp)]
          exact hF.upd_ x.f0 ⟨Ax, cx, rfl, hlx, hCw⟩
        case measure => simp [intOf]; omega
      · go_wp2_with (first
          | (at_lookup; refine wpList_look_map _ rfl _ _ tMap rfl tVer Try.underlying52 rfl (hMf.below (by repeat (first | exact Below.refl _ _ | apply below_alloc))) (zeroVer _) x.f0 hx0 rfl ?_; simp only [h1, Option.getD_some, Option.isSome_some])
          | go_in)
        go_roundw
        case rel =>
          refine ⟨k + 1, by omega, by go_num, ?_, hB.trans ((by repeat (first | exact Below.refl _ _ | apply below_alloc) : Below wr.heap.size wr _).mono hB.size)⟩
          rw [hfs, h2, if_pos (by simp)]
          exact ⟨f, (hMf.mono (Nat.le_succ _)).below (by repeat (first | exact Below.refl _ _ | apply below_alloc)), hF⟩
        case measure => simp [intOf]; omega
    · obtain rfl : k = l.length := by omega
      rw [List.take_length] at hM
      go_wp2
      go_ret
      obtain ⟨f, h1, h2⟩ := hM
      exact ⟨rfl, ⟨f, h1, h2⟩, hB⟩
end Go.Proofs.Ytfepfpcilmaojaa.QV
/- Printed by mp.py (this session's) with the kit's print: plain functions with the answers of the Go code, and the proofs of it. -/
namespace Go.Proofs.Ytfepfpcilmaojaa.QO
open Go.RowKit Go.Proofs.YtfepfpcilmaojaaW.PrintWords Go.Proofs.YtfepfpcilmaojaaW.PrintLast Go.Proofs.YtfepfpcilmaojaaW.PrintMore
attribute [local go_sem] max2_int min2_int max_two min_two max_three min_three max_four min_four   -- for this text's walks alone
set_option linter.unusedVariables false
set_option linter.unusedSimpArgs false



def errW : Option Int → Value
  | none => .nilIface
  | some c => .iface 0 (.int .i64 c)
theorem errW_none : errW none = .nilIface := rfl
theorem errW_some (c : Int) : errW (some c) = .iface 0 (.int .i64 c) := rfl

-- the values' own types

end Go.Proofs.Ytfepfpcilmaojaa.QO
/- Printed by mp.py (this session's) with the kit's print: plain functions with the answers of the Go code, and the proofs of it. -/
namespace Go.Proofs.Ytfepfpcilmaojaa.QO
open Go.RowKit Go.Proofs.YtfepfpcilmaojaaW.PrintWords Go.Proofs.YtfepfpcilmaojaaW.PrintLast Go.Proofs.YtfepfpcilmaojaaW.PrintMore
attribute [local go_sem] max2_int min2_int max_two min_two max_three min_three max_four min_four   -- for this text's walks alone
set_option linter.unusedVariables false
set_option linter.unusedSimpArgs false

/-! ### cmp_Or_int: function 46 -/
def cmp_Or_int.l0 : Nat → Int → List Int → Int → Int → Option (Int)
  | 0, _, _, _, _ => none
  | k + 1, x3, x6, x7, x8 => if x8 < x7 then (if 0 ≤ x8 then (if x8 < (x6.length : Int) then (if (rd x6 x8) = x3 then (cmp_Or_int.l0 k x3 x6 x7 (wrap64 (x8 + 1))) else (some (rd x6 x8))) else (none)) else (none)) else (some x3)
def cmp_Or_int.f (k : Nat) (l0 : List Int) : Option (Int) := cmp_Or_int.l0 k 0 l0 (l0.length : Int) 0
theorem cmp_Or_int.mono_l : ∀ k, (∀ y0 y1 y2 y3, LeO (cmp_Or_int.l0 k y0 y1 y2 y3) (cmp_Or_int.l0 (k + 1) y0 y1 y2 y3))
  | 0 => fun _ _ _ _ r h => by simp [cmp_Or_int.l0] at h
  | k + 1 => by
    have ih0 := cmp_Or_int.mono_l k
    · intro y0 y1 y2 y3
      unfold cmp_Or_int.l0
      repeat' first
      | (with_reducible exact ih0 _ _ _ _)
      | (with_reducible exact LeO.refl _)
      | (with_reducible exact LeO.none _)
      | (with_reducible refine LeO.ite ?_ ?_)
      | (with_reducible refine LeO.bind ?_ (fun _ => ?_))
      | exact ih0 _ _ _ _
      | exact LeO.none _
      | refine LeO.ite ?_ ?_
      | refine LeO.bind ?_ (fun _ => ?_)
theorem cmp_Or_int.mono : ∀ a0 k, LeO (cmp_Or_int.f k a0) (cmp_Or_int.f (k + 1) a0) := by
  intro a0 k
  have ih0 := cmp_Or_int.mono_l k
  unfold cmp_Or_int.f
  repeat' first
      | (with_reducible exact ih0 _ _ _ _)
      | (with_reducible exact LeO.refl _)
      | (with_reducible exact LeO.none _)
      | (with_reducible refine LeO.ite ?_ ?_)
      | (with_reducible refine LeO.bind ?_ (fun _ => ?_))
      | exact ih0 _ _ _ _
      | exact LeO.none _
      | refine LeO.ite ?_ ?_
      | refine LeO.bind ?_ (fun _ => ?_)
set_option maxHeartbeats 8000000 in
set_option maxRecDepth 100000 in
theorem cmp_Or_int.calls (k : Nat) (A0 : Option Addr) (c0 : Nat) (l0 : List Int) (r : Int) (w : World) (hr0 : Kd.C (Kd.int .i64) w A0 l0.length l0) (hc0 : l0.length ≤ c0) (h : cmp_Or_int.f k l0 = some r) :
    Calls Try.prog 46 #[.slice A0 l0.length c0] w fun e w' => e = .returned (.int .i64 r) ∧ Drawn0 w w' := by
  have HR0 := Aside0.mk hr0
  have HC0 := Aside0.mk hc0
  clear hr0 hc0
  have H : (cmp_Or_int.l0 k 0 l0 (l0.length : Int) 0) = some r := h
  clear h
  have H' := Aside0.mk H
  clear H
  go_enter Try.func46, Try.ntmps46
  go_wp2
  go_loopg [8] k (fun kq v8 w' => ∃ (x8_1 : Int), v8 = .int .i64 x8_1 ∧ Aside0 (cmp_Or_int.l0 kq 0 l0 (l0.length : Int) x8_1 = some r) ∧ Aside0 (kq ≤ k) ∧ Drawn0 w w')
  case atStart => exact ⟨(0), (by first | rfl | (simp; done) | (simp [*]; done)), H', ⟨Nat.le_refl _⟩, by repeat (first | exact Drawn0.refl _ | apply Drawn0.step)⟩
  case round =>
    clear H'
    obtain ⟨x8_1, rfl, HA, HK1, ⟨m1, rfl⟩⟩ := hrel
    cases gk with
    | zero => exact absurd HA.out (by simp [cmp_Or_int.l0])
    | succ k1 =>
      have H := HA.out
      clear HA
      simp only [cmp_Or_int.l0] at H
      by_cases c2 : x8_1 < (l0.length : Int)
      · rw [if_pos c2] at H
        have c2b0 : decide (x8_1 < (l0.length : Int)) = true := decide_eq_true c2
        clear c2
        by_cases c3 : 0 ≤ x8_1
        · rw [if_pos c3] at H
          have c3b0 : decide (0 ≤ x8_1) = true := decide_eq_true c3
          clear c3
          by_cases c4 : x8_1 < (l0.length : Int)
          · rw [if_pos c4] at H
            have c4b0 : decide (x8_1 < (l0.length : Int)) = true := decide_eq_true c4
            clear c4
            by_cases c5 : (rd l0 x8_1) = 0
            · rw [if_pos c5] at H
              have c5b0 : ((rd l0 x8_1) == 0) = true := beq_iff_eq.mpr c5
              have c5b1 : ((rd l0 x8_1) != 0) = false := bne_eq_false_iff_eq.mpr c5
              clear c5
              have H' := Aside0.mk H
              clear H
              have p101 : 0 ≤ (x8_1 : Int) := of_decide_eq_true (by first | (with_reducible assumption) | assumption)
              have q101 : x8_1 < (l0.length : Int) := of_decide_eq_true (by first | (with_reducible assumption) | assumption)
              obtain ⟨ad101, e101, hx101_0⟩ := Kd.at_int HR0.out x8_1 p101 q101
              cases e101
              replace p101 := eq_true p101
              replace q101 := eq_true q101
              go_wp2
              go_roundg k1
              case measure => have := HK1.out; omega
              case rel => exact ⟨(wrap64 (x8_1 + 1)), (by first | rfl | (simp; done) | (simp [*]; done)), H', ⟨by have := HK1.out; omega⟩, by repeat (first | exact Drawn0.refl _ | apply Drawn0.step)⟩
            · rw [if_neg c5] at H
              have c5b0 : ((rd l0 x8_1) == 0) = false := beq_eq_false_iff_ne.mpr c5
              have c5b1 : ((rd l0 x8_1) != 0) = true := bne_iff_ne.mpr c5
              obtain rfl := Option.some.inj H
              have p101 : 0 ≤ (x8_1 : Int) := of_decide_eq_true (by first | (with_reducible assumption) | assumption)
              have q101 : x8_1 < (l0.length : Int) := of_decide_eq_true (by first | (with_reducible assumption) | assumption)
              obtain ⟨ad101, e101, hx101_0⟩ := Kd.at_int HR0.out x8_1 p101 q101
              cases e101
              replace p101 := eq_true p101
              replace q101 := eq_true q101
              go_wp2
              go_ret
              exact ⟨by first | rfl | (simp; done) | (simp [*]; done), by repeat (first | exact Drawn0.refl _ | apply Drawn0.step)⟩
          · rw [if_neg c4] at H
            exact absurd H (by simp)
        · rw [if_neg c3] at H
          exact absurd H (by simp)
      · rw [if_neg c2] at H
        have c2b0 : decide (x8_1 < (l0.length : Int)) = false := decide_eq_false c2
        clear c2
        obtain rfl := Option.some.inj H
        go_wp2
        go_ret
        exact ⟨by first | rfl | (simp; done) | (simp [*]; done), by repeat (first | exact Drawn0.refl _ | apply Drawn0.step)⟩

/-! ### cmp_isNaN_uint64: function 52 -/
def cmp_isNaN_uint64.f (a0 : Int) : Option (Bool) := some (a0 != a0)
set_option maxHeartbeats 8000000 in
set_option maxRecDepth 100000 in
theorem cmp_isNaN_uint64.calls (a0 : Int) (r : Bool) (w : World) (h : cmp_isNaN_uint64.f a0 = some r) :
    Calls Try.prog 52 #[.int .u64 a0] w fun e w' => e = .returned (.bool r) ∧ Drawn0 w w' := by
  have H : (some (a0 != a0)) = some r := h
  clear h
  obtain rfl := Option.some.inj H
  go_enter Try.func52, Try.ntmps52
  go_wp2
  go_ret
  exact ⟨by first | rfl | (simp; done) | (simp [*]; done), by repeat (first | exact Drawn0.refl _ | apply Drawn0.step)⟩

/-! ### cmp_Compare_uint64: function 47 -/
def cmp_Compare_uint64.f (a0 : Int) (a1 : Int) : Option (Int) := (cmp_isNaN_uint64.f a0).bind fun t102 => ((cmp_isNaN_uint64.f a1).bind fun t103 => (if t102 = true then (if t103 = true then (some 0) else (some (-1))) else (if t103 = true then (some 1) else (if a0 < a1 then (some (-1)) else (if a0 > a1 then (some 1) else (some 0))))))
set_option maxHeartbeats 8000000 in
set_option maxRecDepth 100000 in
theorem cmp_Compare_uint64.calls (a0 : Int) (a1 : Int) (r : Int) (w : World) (h : cmp_Compare_uint64.f a0 a1 = some r) :
    Calls Try.prog 47 #[.int .u64 a0, .int .u64 a1] w fun e w' => e = .returned (.int .i64 r) ∧ Drawn0 w w' := by
  have H : ((cmp_isNaN_uint64.f a0).bind fun t102 => ((cmp_isNaN_uint64.f a1).bind fun t103 => (if t102 = true then (if t103 = true then (some 0) else (some (-1))) else (if t103 = true then (some 1) else (if a0 < a1 then (some (-1)) else (if a0 > a1 then (some 1) else (some 0))))))) = some r := h
  clear h
  replace H := Option.bind_eq_some_iff.mp H
  obtain ⟨t102, A30, H⟩ := H
  replace H : ((cmp_isNaN_uint64.f a1).bind fun t103 => (if t102 = true then (if t103 = true then (some 0) else (some (-1))) else (if t103 = true then (some 1) else (if a0 < a1 then (some (-1)) else (if a0 > a1 then (some 1) else (some 0)))))) = some r := H
  have A3 := Aside0.mk A30
  clear A30
  replace H := Option.bind_eq_some_iff.mp H
  obtain ⟨t103, A40, H⟩ := H
  replace H : (if t102 = true then (if t103 = true then (some 0) else (some (-1))) else (if t103 = true then (some 1) else (if a0 < a1 then (some (-1)) else (if a0 > a1 then (some 1) else (some 0))))) = some r := H
  have A4 := Aside0.mk A40
  clear A40
  by_cases c5 : t102 = true
  · subst c5
    have H1 : (if t103 = true then (some 0) else (some (-1))) = some r := by rw [if_pos rfl] at H; exact H
    clear H
    have H := H1
    clear H1
    by_cases c6 : t103 = true
    · subst c6
      have H1 : (some 0) = some r := by rw [if_pos rfl] at H; exact H
      clear H
      have H := H1
      clear H1
      obtain rfl := Option.some.inj H
      go_enter Try.func47, Try.ntmps47
      go_wp2_with (first | ((with_reducible refine gate_callee (f := 52) rfl ?_); refine goesL_ (some 8) rfl rfl Try.func52 (by kernel_rfl) rfl #[.int .u64 a0] rfl (by (try simp only [List.map_toArray, List.map_cons, List.map_nil]); first | done | rfl | (simp only [List.length_drop, List.length_take]; rfl)) ?_; (with_reducible refine (cmp_isNaN_uint64.calls a0 true _ A3.out).mono ?_); rintro e w' ⟨rfl, ⟨nd, rfl⟩⟩; refine ⟨_, rfl, ?_⟩) | ((with_reducible refine gate_callee (f := 52) rfl ?_); refine goesL_ (some 10) rfl rfl Try.func52 (by kernel_rfl) rfl #[.int .u64 a1] rfl (by (try simp only [List.map_toArray, List.map_cons, List.map_nil]); first | done | rfl | (simp only [List.length_drop, List.length_take]; rfl)) ?_; (with_reducible refine (cmp_isNaN_uint64.calls a1 true _ A4.out).mono ?_); rintro e w' ⟨rfl, ⟨nd, rfl⟩⟩; refine ⟨_, rfl, ?_⟩))
      go_ret
      exact ⟨by first | rfl | (simp; done) | (simp [*]; done), by repeat (first | exact Drawn0.refl _ | apply Drawn0.step)⟩
    · replace c6 := Bool.eq_false_iff.mpr c6
      subst c6
      have H1 : (some (-1)) = some r := by rw [if_neg (show ¬ (false = true) by decide)] at H; exact H
      clear H
      have H := H1
      clear H1
      obtain rfl := Option.some.inj H
      go_enter Try.func47, Try.ntmps47
      go_wp2_with (first | ((with_reducible refine gate_callee (f := 52) rfl ?_); refine goesL_ (some 8) rfl rfl Try.func52 (by kernel_rfl) rfl #[.int .u64 a0] rfl (by (try simp only [List.map_toArray, List.map_cons, List.map_nil]); first | done | rfl | (simp only [List.length_drop, List.length_take]; rfl)) ?_; (with_reducible refine (cmp_isNaN_uint64.calls a0 true _ A3.out).mono ?_); rintro e w' ⟨rfl, ⟨nd, rfl⟩⟩; refine ⟨_, rfl, ?_⟩) | ((with_reducible refine gate_callee (f := 52) rfl ?_); refine goesL_ (some 10) rfl rfl Try.func52 (by kernel_rfl) rfl #[.int .u64 a1] rfl (by (try simp only [List.map_toArray, List.map_cons, List.map_nil]); first | done | rfl | (simp only [List.length_drop, List.length_take]; rfl)) ?_; (with_reducible refine (cmp_isNaN_uint64.calls a1 false _ A4.out).mono ?_); rintro e w' ⟨rfl, ⟨nd, rfl⟩⟩; refine ⟨_, rfl, ?_⟩))
      go_ret
      exact ⟨by first | rfl | (simp; done) | (simp [*]; done), by repeat (first | exact Drawn0.refl _ | apply Drawn0.step)⟩
  · replace c5 := Bool.eq_false_iff.mpr c5
    subst c5
    have H1 : (if t103 = true then (some 1) else (if a0 < a1 then (some (-1)) else (if a0 > a1 then (some 1) else (some 0)))) = some r := by rw [if_neg (show ¬ (false = true) by decide)] at H; exact H
    clear H
    have H := H1
    clear H1
    by_cases c7 : t103 = true
    · subst c7
      have H1 : (some 1) = some r := by rw [if_pos rfl] at H; exact H
      clear H
      have H := H1
      clear H1
      obtain rfl := Option.some.inj H
      go_enter Try.func47, Try.ntmps47
      go_wp2_with (first | ((with_reducible refine gate_callee (f := 52) rfl ?_); refine goesL_ (some 8) rfl rfl Try.func52 (by kernel_rfl) rfl #[.int .u64 a0] rfl (by (try simp only [List.map_toArray, List.map_cons, List.map_nil]); first | done | rfl | (simp only [List.length_drop, List.length_take]; rfl)) ?_; (with_reducible refine (cmp_isNaN_uint64.calls a0 false _ A3.out).mono ?_); rintro e w' ⟨rfl, ⟨nd, rfl⟩⟩; refine ⟨_, rfl, ?_⟩) | ((with_reducible refine gate_callee (f := 52) rfl ?_); refine goesL_ (some 10) rfl rfl Try.func52 (by kernel_rfl) rfl #[.int .u64 a1] rfl (by (try simp only [List.map_toArray, List.map_cons, List.map_nil]); first | done | rfl | (simp only [List.length_drop, List.length_take]; rfl)) ?_; (with_reducible refine (cmp_isNaN_uint64.calls a1 true _ A4.out).mono ?_); rintro e w' ⟨rfl, ⟨nd, rfl⟩⟩; refine ⟨_, rfl, ?_⟩))
      go_ret
      exact ⟨by first | rfl | (simp; done) | (simp [*]; done), by repeat (first | exact Drawn0.refl _ | apply Drawn0.step)⟩
    · replace c7 := Bool.eq_false_iff.mpr c7
      subst c7
      have H1 : (if a0 < a1 then (some (-1)) else (if a0 > a1 then (some 1) else (some 0))) = some r := by rw [if_neg (show ¬ (false = true) by decide)] at H; exact H
      clear H
      have H := H1
      clear H1
      by_cases c8 : a0 < a1
      · rw [if_pos c8] at H
        have c8b0 : decide (a0 < a1) = true := decide_eq_true c8
        clear c8
        obtain rfl := Option.some.inj H
        go_enter Try.func47, Try.ntmps47
        go_wp2_with (first | ((with_reducible refine gate_callee (f := 52) rfl ?_); refine goesL_ (some 8) rfl rfl Try.func52 (by kernel_rfl) rfl #[.int .u64 a0] rfl (by (try simp only [List.map_toArray, List.map_cons, List.map_nil]); first | done | rfl | (simp only [List.length_drop, List.length_take]; rfl)) ?_; (with_reducible refine (cmp_isNaN_uint64.calls a0 false _ A3.out).mono ?_); rintro e w' ⟨rfl, ⟨nd, rfl⟩⟩; refine ⟨_, rfl, ?_⟩) | ((with_reducible refine gate_callee (f := 52) rfl ?_); refine goesL_ (some 10) rfl rfl Try.func52 (by kernel_rfl) rfl #[.int .u64 a1] rfl (by (try simp only [List.map_toArray, List.map_cons, List.map_nil]); first | done | rfl | (simp only [List.length_drop, List.length_take]; rfl)) ?_; (with_reducible refine (cmp_isNaN_uint64.calls a1 false _ A4.out).mono ?_); rintro e w' ⟨rfl, ⟨nd, rfl⟩⟩; refine ⟨_, rfl, ?_⟩))
        go_ret
        exact ⟨by first | rfl | (simp; done) | (simp [*]; done), by repeat (first | exact Drawn0.refl _ | apply Drawn0.step)⟩
      · rw [if_neg c8] at H
        have c8b0 : decide (a0 < a1) = false := decide_eq_false c8
        clear c8
        by_cases c9 : a0 > a1
        · rw [if_pos c9] at H
          have c9b0 : decide (a1 < a0) = true := decide_eq_true c9
          clear c9
          obtain rfl := Option.some.inj H
          go_enter Try.func47, Try.ntmps47
          go_wp2_with (first | ((with_reducible refine gate_callee (f := 52) rfl ?_); refine goesL_ (some 8) rfl rfl Try.func52 (by kernel_rfl) rfl #[.int .u64 a0] rfl (by (try simp only [List.map_toArray, List.map_cons, List.map_nil]); first | done | rfl | (simp only [List.length_drop, List.length_take]; rfl)) ?_; (with_reducible refine (cmp_isNaN_uint64.calls a0 false _ A3.out).mono ?_); rintro e w' ⟨rfl, ⟨nd, rfl⟩⟩; refine ⟨_, rfl, ?_⟩) | ((with_reducible refine gate_callee (f := 52) rfl ?_); refine goesL_ (some 10) rfl rfl Try.func52 (by kernel_rfl) rfl #[.int .u64 a1] rfl (by (try simp only [List.map_toArray, List.map_cons, List.map_nil]); first | done | rfl | (simp only [List.length_drop, List.length_take]; rfl)) ?_; (with_reducible refine (cmp_isNaN_uint64.calls a1 false _ A4.out).mono ?_); rintro e w' ⟨rfl, ⟨nd, rfl⟩⟩; refine ⟨_, rfl, ?_⟩))
          go_ret
          exact ⟨by first | rfl | (simp; done) | (simp [*]; done), by repeat (first | exact Drawn0.refl _ | apply Drawn0.step)⟩
        · rw [if_neg c9] at H
          have c9b0 : decide (a1 < a0) = false := decide_eq_false c9
          clear c9
          obtain rfl := Option.some.inj H
          go_enter Try.func47, Try.ntmps47
          go_wp2_with (first | ((with_reducible refine gate_callee (f := 52) rfl ?_); refine goesL_ (some 8) rfl rfl Try.func52 (by kernel_rfl) rfl #[.int .u64 a0] rfl (by (try simp only [List.map_toArray, List.map_cons, List.map_nil]); first | done | rfl | (simp only [List.length_drop, List.length_take]; rfl)) ?_; (with_reducible refine (cmp_isNaN_uint64.calls a0 false _ A3.out).mono ?_); rintro e w' ⟨rfl, ⟨nd, rfl⟩⟩; refine ⟨_, rfl, ?_⟩) | ((with_reducible refine gate_callee (f := 52) rfl ?_); refine goesL_ (some 10) rfl rfl Try.func52 (by kernel_rfl) rfl #[.int .u64 a1] rfl (by (try simp only [List.map_toArray, List.map_cons, List.map_nil]); first | done | rfl | (simp only [List.length_drop, List.length_take]; rfl)) ?_; (with_reducible refine (cmp_isNaN_uint64.calls a1 false _ A4.out).mono ?_); rintro e w' ⟨rfl, ⟨nd, rfl⟩⟩; refine ⟨_, rfl, ?_⟩))
          go_ret
          exact ⟨by first | rfl | (simp; done) | (simp [*]; done), by repeat (first | exact Drawn0.refl _ | apply Drawn0.step)⟩

/-! ### cmp_isNaN_uint32: function 53 -/
def cmp_isNaN_uint32.f (a0 : Int) : Option (Bool) := some (a0 != a0)
set_option maxHeartbeats 8000000 in
set_option maxRecDepth 100000 in
theorem cmp_isNaN_uint32.calls (a0 : Int) (r : Bool) (w : World) (h : cmp_isNaN_uint32.f a0 = some r) :
    Calls Try.prog 53 #[.int .u32 a0] w fun e w' => e = .returned (.bool r) ∧ Drawn0 w w' := by
  have H : (some (a0 != a0)) = some r := h
  clear h
  obtain rfl := Option.some.inj H
  go_enter Try.func53, Try.ntmps53
  go_wp2
  go_ret
  exact ⟨by first | rfl | (simp; done) | (simp [*]; done), by repeat (first | exact Drawn0.refl _ | apply Drawn0.step)⟩

/-! ### cmp_Compare_uint32: function 48 -/
def cmp_Compare_uint32.f (a0 : Int) (a1 : Int) : Option (Int) := (cmp_isNaN_uint32.f a0).bind fun t104 => ((cmp_isNaN_uint32.f a1).bind fun t105 => (if t104 = true then (if t105 = true then (some 0) else (some (-1))) else (if t105 = true then (some 1) else (if a0 < a1 then (some (-1)) else (if a0 > a1 then (some 1) else (some 0))))))
set_option maxHeartbeats 8000000 in
set_option maxRecDepth 100000 in
theorem cmp_Compare_uint32.calls (a0 : Int) (a1 : Int) (r : Int) (w : World) (h : cmp_Compare_uint32.f a0 a1 = some r) :
    Calls Try.prog 48 #[.int .u32 a0, .int .u32 a1] w fun e w' => e = .returned (.int .i64 r) ∧ Drawn0 w w' := by
  have H : ((cmp_isNaN_uint32.f a0).bind fun t104 => ((cmp_isNaN_uint32.f a1).bind fun t105 => (if t104 = true then (if t105 = true then (some 0) else (some (-1))) else (if t105 = true then (some 1) else (if a0 < a1 then (some (-1)) else (if a0 > a1 then (some 1) else (some 0))))))) = some r := h
  clear h
  replace H := Option.bind_eq_some_iff.mp H
  obtain ⟨t104, A30, H⟩ := H
  replace H : ((cmp_isNaN_uint32.f a1).bind fun t105 => (if t104 = true then (if t105 = true then (some 0) else (some (-1))) else (if t105 = true then (some 1) else (if a0 < a1 then (some (-1)) else (if a0 > a1 then (some 1) else (some 0)))))) = some r := H
  have A3 := Aside0.mk A30
  clear A30
  replace H := Option.bind_eq_some_iff.mp H
  obtain ⟨t105, A40, H⟩ := H
  replace H : (if t104 = true then (if t105 = true then (some 0) else (some (-1))) else (if t105 = true then (some 1) else (if a0 < a1 then (some (-1)) else (if a0 > a1 then (some 1) else (some 0))))) = some r := H
  have A4 := Aside0.mk A40
  clear A40
  by_cases c5 : t104 = true
  · subst c5
    have H1 : (if t105 = true then (some 0) else (some (-1))) = some r := by rw [if_pos rfl] at H; exact H
    clear H
    have H := H1
    clear H1
    by_cases c6 : t105 = true
    · subst c6
      have H1 : (some 0) = some r := by rw [if_pos rfl] at H; exact H
      clear H
      have H := H1
      clear H1
      obtain rfl := Option.some.inj H
      go_enter Try.func48, Try.ntmps48
      go_wp2_with (first | ((with_reducible refine gate_callee (f := 53) rfl ?_); refine goesL_ (some 8) rfl rfl Try.func53 (by kernel_rfl) rfl #[.int .u32 a0] rfl (by (try simp only [List.map_toArray, List.map_cons, List.map_nil]); first | done | rfl | (simp only [List.length_drop, List.length_take]; rfl)) ?_; (with_reducible refine (cmp_isNaN_uint32.calls a0 true _ A3.out).mono ?_); rintro e w' ⟨rfl, ⟨nd, rfl⟩⟩; refine ⟨_, rfl, ?_⟩) | ((with_reducible refine gate_callee (f := 53) rfl ?_); refine goesL_ (some 10) rfl rfl Try.func53 (by kernel_rfl) rfl #[.int .u32 a1] rfl (by (try simp only [List.map_toArray, List.map_cons, List.map_nil]); first | done | rfl | (simp only [List.length_drop, List.length_take]; rfl)) ?_; (with_reducible refine (cmp_isNaN_uint32.calls a1 true _ A4.out).mono ?_); rintro e w' ⟨rfl, ⟨nd, rfl⟩⟩; refine ⟨_, rfl, ?_⟩))
      go_ret
      exact ⟨by first | rfl | (simp; done) | (simp [*]; done), by repeat (first | exact Drawn0.refl _ | apply Drawn0.step)⟩
    · replace c6 := Bool.eq_false_iff.mpr c6
      subst c6
      have H1 : (some (-1)) = some r := by rw [if_neg (show ¬ (false = true) by decide)] at H; exact H
      clear H
      have H := H1
      clear H1
      obtain rfl := Option.some.inj H
      go_enter Try.func48, Try.ntmps48
      go_wp2_with (first | ((with_reducible refine gate_callee (f := 53) rfl ?_); refine goesL_ (some 8) rfl rfl Try.func53 (by kernel_rfl) rfl #[.int .u32 a0] rfl (by (try simp only [List.map_toArray, List.map_cons, List.map_nil]); first | done | rfl | (simp only [List.length_drop, List.length_take]; rfl)) ?_; (with_reducible refine (cmp_isNaN_uint32.calls a0 true _ A3.out).mono ?_); rintro e w' ⟨rfl, ⟨nd, rfl⟩⟩; refine ⟨_, rfl, ?_⟩) | ((with_reducible refine gate_callee (f := 53) rfl ?_); refine goesL_ (some 10) rfl rfl Try.func53 (by kernel_rfl) rfl #[.int .u32 a1] rfl (by (try simp only [List.map_toArray, List.map_cons, List.map_nil]); first | done | rfl | (simp only [List.length_drop, List.length_take]; rfl)) ?_; (with_reducible refine (cmp_isNaN_uint32.calls a1 false _ A4.out).mono ?_); rintro e w' ⟨rfl, ⟨nd, rfl⟩⟩; refine ⟨_, rfl, ?_⟩))
      go_ret
      exact ⟨by first | rfl | (simp; done) | (simp [*]; done), by repeat (first | exact Drawn0.refl _ | apply Drawn0.step)⟩
  · replace c5 := Bool.eq_false_iff.mpr c5
    subst c5
    have H1 : (if t105 = true then (some 1) else (if a0 < a1 then (some (-1)) else (if a0 > a1 then (some 1) else (some 0)))) = some r := by rw [if_neg (show ¬ (false = true) by decide)] at H; exact H
    clear H
    have H := H1
    clear H1
    by_cases c7 : t105 = true
    · subst c7
      have H1 : (some 1) = some r := by rw [if_pos rfl] at H; exact H
      clear H
      have H := H1
      clear H1
      obtain rfl := Option.some.inj H
      go_enter Try.func48, Try.ntmps48
      go_wp2_with (first | ((with_reducible refine gate_callee (f := 53) rfl ?_); refine goesL_ (some 8) rfl rfl Try.func53 (by kernel_rfl) rfl #[.int .u32 a0] rfl (by (try simp only [List.map_toArray, List.map_cons, List.map_nil]); first | done | rfl | (simp only [List.length_drop, List.length_take]; rfl)) ?_; (with_reducible refine (cmp_isNaN_uint32.calls a0 false _ A3.out).mono ?_); rintro e w' ⟨rfl, ⟨nd, rfl⟩⟩; refine ⟨_, rfl, ?_⟩) | ((with_reducible refine gate_callee (f := 53) rfl ?_); refine goesL_ (some 10) rfl rfl Try.func53 (by kernel_rfl) rfl #[.int .u32 a1] rfl (by (try simp only [List.map_toArray, List.map_cons, List.map_nil]); first | done | rfl | (simp only [List.length_drop, List.length_take]; rfl)) ?_; (with_reducible refine (cmp_isNaN_uint32.calls a1 true _ A4.out).mono ?_); rintro e w' ⟨rfl, ⟨nd, rfl⟩⟩; refine ⟨_, rfl, ?_⟩))
      go_ret
      exact ⟨by first | rfl | (simp; done) | (simp [*]; done), by repeat (first | exact Drawn0.refl _ | apply Drawn0.step)⟩
    · replace c7 := Bool.eq_false_iff.mpr c7
      subst c7
      have H1 : (if a0 < a1 then (some (-1)) else (if a0 > a1 then (some 1) else (some 0))) = some r := by rw [if_neg (show ¬ (false = true) by decide)] at H; exact H
      clear H
      have H := H1
      clear H1
      by_cases c8 : a0 < a1
      · rw [if_pos c8] at H
        have c8b0 : decide (a0 < a1) = true := decide_eq_true c8
        clear c8
        obtain rfl := Option.some.inj H
        go_enter Try.func48, Try.ntmps48
        go_wp2_with (first | ((with_reducible refine gate_callee (f := 53) rfl ?_); refine goesL_ (some 8) rfl rfl Try.func53 (by kernel_rfl) rfl #[.int .u32 a0] rfl (by (try simp only [List.map_toArray, List.map_cons, List.map_nil]); first | done | rfl | (simp only [List.length_drop, List.length_take]; rfl)) ?_; (with_reducible refine (cmp_isNaN_uint32.calls a0 false _ A3.out).mono ?_); rintro e w' ⟨rfl, ⟨nd, rfl⟩⟩; refine ⟨_, rfl, ?_⟩) | ((with_reducible refine gate_callee (f := 53) rfl ?_); refine goesL_ (some 10) rfl rfl Try.func53 (by kernel_rfl) rfl #[.int .u32 a1] rfl (by (try simp only [List.map_toArray, List.map_cons, List.map_nil]); first | done | rfl | (simp only [List.length_drop, List.length_take]; rfl)) ?_; (with_reducible refine (cmp_isNaN_uint32.calls a1 false _ A4.out).mono ?_); rintro e w' ⟨rfl, ⟨nd, rfl⟩⟩; refine ⟨_, rfl, ?_⟩))
        go_ret
        exact ⟨by first | rfl | (simp; done) | (simp [*]; done), by repeat (first | exact Drawn0.refl _ | apply Drawn0.step)⟩
      · rw [if_neg c8] at H
        have c8b0 : decide (a0 < a1) = false := decide_eq_false c8
        clear c8
        by_cases c9 : a0 > a1
        · rw [if_pos c9] at H
          have c9b0 : decide (a1 < a0) = true := decide_eq_true c9
          clear c9
          obtain rfl := Option.some.inj H
          go_enter Try.func48, Try.ntmps48
          go_wp2_with (first | ((with_reducible refine gate_callee (f := 53) rfl ?_); refine goesL_ (some 8) rfl rfl Try.func53 (by kernel_rfl) rfl #[.int .u32 a0] rfl (by (try simp only [List.map_toArray, List.map_cons, List.map_nil]); first | done | rfl | (simp only [List.length_drop, List.length_take]; rfl)) ?_; (with_reducible refine (cmp_isNaN_uint32.calls a0 false _ A3.out).mono ?_); rintro e w' ⟨rfl, ⟨nd, rfl⟩⟩; refine ⟨_, rfl, ?_⟩) | ((with_reducible refine gate_callee (f := 53) rfl ?_); refine goesL_ (some 10) rfl rfl Try.func53 (by kernel_rfl) rfl #[.int .u32 a1] rfl (by (try simp only [List.map_toArray, List.map_cons, List.map_nil]); first | done | rfl | (simp only [List.length_drop, List.length_take]; rfl)) ?_; (with_reducible refine (cmp_isNaN_uint32.calls a1 false _ A4.out).mono ?_); rintro e w' ⟨rfl, ⟨nd, rfl⟩⟩; refine ⟨_, rfl, ?_⟩))
          go_ret
          exact ⟨by first | rfl | (simp; done) | (simp [*]; done), by repeat (first | exact Drawn0.refl _ | apply Drawn0.step)⟩
        · rw [if_neg c9] at H
          have c9b0 : decide (a1 < a0) = false := decide_eq_false c9
          clear c9
          obtain rfl := Option.some.inj H
          go_enter Try.func48, Try.ntmps48
          go_wp2_with (first | ((with_reducible refine gate_callee (f := 53) rfl ?_); refine goesL_ (some 8) rfl rfl Try.func53 (by kernel_rfl) rfl #[.int .u32 a0] rfl (by (try simp only [List.map_toArray, List.map_cons, List.map_nil]); first | done | rfl | (simp only [List.length_drop, List.length_take]; rfl)) ?_; (with_reducible refine (cmp_isNaN_uint32.calls a0 false _ A3.out).mono ?_); rintro e w' ⟨rfl, ⟨nd, rfl⟩⟩; refine ⟨_, rfl, ?_⟩) | ((with_reducible refine gate_callee (f := 53) rfl ?_); refine goesL_ (some 10) rfl rfl Try.func53 (by kernel_rfl) rfl #[.int .u32 a1] rfl (by (try simp only [List.map_toArray, List.map_cons, List.map_nil]); first | done | rfl | (simp only [List.length_drop, List.length_take]; rfl)) ?_; (with_reducible refine (cmp_isNaN_uint32.calls a1 false _ A4.out).mono ?_); rintro e w' ⟨rfl, ⟨nd, rfl⟩⟩; refine ⟨_, rfl, ?_⟩))
          go_ret
          exact ⟨by first | rfl | (simp; done) | (simp [*]; done), by repeat (first | exact Drawn0.refl _ | apply Drawn0.step)⟩

/-! ### recover_order: function 40 -/
def recover_order.f (k : Nat) (a0_0 : Int) (a0_1 : Int) (a1_0 : Int) (a1_1 : Int) : Option (Int) := (cmp_Compare_uint64.f a0_0 a1_0).bind fun t108 => ((cmp_Compare_uint32.f a0_1 a1_1).bind fun t109 => ((cmp_Or_int.f k (([t108, t109] : List Int))).bind fun t113 => (some t113)))
theorem recover_order.mono : ∀ a0 a1 a2 a3 k, LeO (recover_order.f k a0 a1 a2 a3) (recover_order.f (k + 1) a0 a1 a2 a3) := by
  intro a0 a1 a2 a3 k
  unfold recover_order.f
  repeat' first
      | (with_reducible exact cmp_Or_int.mono _ _)
      | (with_reducible exact LeO.refl _)
      | (with_reducible exact LeO.none _)
      | (with_reducible refine LeO.ite ?_ ?_)
      | (with_reducible refine LeO.bind ?_ (fun _ => ?_))
      | exact cmp_Or_int.mono _ _
      | exact LeO.none _
      | refine LeO.ite ?_ ?_
      | refine LeO.bind ?_ (fun _ => ?_)
def recover_order.T1 : Bool × List (List Nat × List Nat) := (true, [([], []), ([0], [0]), ([], []), ([2], [2]), ([1, 3], [1, 3]), ([], []), ([5], [5]), ([], []), ([7], [7]), ([6, 8, 4], [6, 8]), ([4, 9], [4, 9]), ([10, 9], [10]), ([11, 11, 0, 1, 2, 3, 4, 5, 6, 7, 8, 9, 10, 11], [11])])
def recover_order.B1 : List Nat := [0, 1, 0, 4, 15, 0, 32, 0, 128, 511, 1023, 2047, 4095]
theorem recover_order.tab1 : rtab .any (opsOf Try.f40 1) = recover_order.T1 := by kernel_rfl
theorem recover_order.bits1 : waitsOk recover_order.T1.2 recover_order.B1 = true := by kernel_rfl
set_option maxHeartbeats 8000000 in
set_option maxRecDepth 100000 in
theorem recover_order.calls (k : Nat) (a0_0 : Int) (a0_1 : Int) (a1_0 : Int) (a1_1 : Int) (r : Int) (w : World) (h : recover_order.f k a0_0 a0_1 a1_0 a1_1 = some r) :
    Calls Try.prog 40 #[.agg #[.int .u64 a0_0, .int .u32 a0_1], .agg #[.int .u64 a1_0, .int .u32 a1_1]] w fun e w' => e = .returned (.int .i64 r) ∧ Below w.heap.size w w' := by
  have hu31 := Try.underlying31
  have HB := Aside0.mk (Below.refl w.heap.size w)
  have H : ((cmp_Compare_uint64.f a0_0 a1_0).bind fun t108 => ((cmp_Compare_uint32.f a0_1 a1_1).bind fun t109 => ((cmp_Or_int.f k (([t108, t109] : List Int))).bind fun t113 => (some t113)))) = some r := h
  clear h
  replace H := Option.bind_eq_some_iff.mp H
  obtain ⟨t108, A30, H⟩ := H
  replace H : ((cmp_Compare_uint32.f a0_1 a1_1).bind fun t109 => ((cmp_Or_int.f k (([t108, t109] : List Int))).bind fun t113 => (some t113))) = some r := H
  have A3 := Aside0.mk A30
  clear A30
  replace H := Option.bind_eq_some_iff.mp H
  obtain ⟨t109, A40, H⟩ := H
  replace H : ((cmp_Or_int.f k (([t108, t109] : List Int))).bind fun t113 => (some t113)) = some r := H
  have A4 := Aside0.mk A40
  clear A40
  obtain ⟨y110, hy110⟩ : ∃ y_ : List Int, y_ = (([t108, t109] : List Int)) := ⟨_, rfl⟩
  replace H : ((cmp_Or_int.f k y110).bind fun t113 => (some t113)) = some r := by first | (rw [hy110]; with_reducible exact H) | (have H2_ := (Option.bind_some _ _).symm.trans H; rw [hy110]; with_reducible exact H2_) | (have H2_ := (Option.bind_some _ _).symm.trans H; with_reducible exact H2_) | with_reducible exact H | (rw [hy110]; exact H) | exact H
  have Ny110 := Aside0.mk hy110
  clear hy110
  replace H := Option.bind_eq_some_iff.mp H
  obtain ⟨t113, A50, H⟩ := H
  replace H : (some t113) = some r := H
  have A5 := Aside0.mk A50
  clear A50
  obtain rfl := Option.some.inj H
  go_enter Try.func40, Try.ntmps40
  try go_wp2_with (first | ((with_reducible refine gate_dst (N := 2) rfl ?_); refine box_event ?hg (N := 2) ?hd (cs := #[.int .u64 a0_0, .int .u32 a0_1]) (t := 31) ?hr ?_; (case hd => rfl); (case hg => rfl); (case hr => first | (go_simp; done) | (go_simp; rfl)); intro gb106 hg w6 hbox hb; have n0_ := Aside0.mk (below_step (by repeat (first | (with_reducible first | exact HB.out | apply below_alloc | apply pw_below_drewN | apply below_drew1) | exact HB.out)) hb); have n1_ := Aside0.mk (hbox); have n2_ := Aside0.mk ((by rw [hg]; exact (below_size (by repeat (first | (with_reducible first | exact HB.out | apply below_alloc | apply pw_below_drewN | apply below_drew1) | exact HB.out))) : w.heap.size ≤ gb106)); have n3_ := Aside0.mk ((by rw [hg]; exact (below_size (by repeat (first | (with_reducible first | exact HB.out | apply below_alloc | apply pw_below_drewN | apply below_drew1) | exact HB.out))) : w.heap.size ≤ gb106)); clear HB; have HB := n0_; have BK106 := n1_; have GW106 := n2_; have GE106 := n3_; clear n0_ n1_ n2_ n3_; clear hb hbox hg) | ((with_reducible refine gate_dst (N := 3) rfl ?_); refine box_event ?hg (N := 3) ?hd (cs := #[.int .u64 a1_0, .int .u32 a1_1]) (t := 31) ?hr ?_; (case hd => rfl); (case hg => rfl); (case hr => first | (go_simp; done) | (go_simp; rfl)); intro gb107 hg w7 hbox hb; have n0_ := Aside0.mk (blk_below (g := gb106) (o := .cells #[.int .u64 a0_0, .int .u32 a0_1] 31 (0, 0)) (by (with_reducible repeat (first | refine blk_drewN ?_ _ | refine blk_drew ?_ | refine blk_alloc ?_ _)); exact BK106.out) hb); have n1_ := Aside0.mk (below_step (by repeat (first | (with_reducible first | exact HB.out | apply below_alloc | apply pw_below_drewN | apply below_drew1 | refine below_set ?_ GE106.out) | exact HB.out)) hb); have n2_ := Aside0.mk (hbox); have n3_ := Aside0.mk ((by rw [hg]; exact (below_size (by repeat (first | (with_reducible first | exact HB.out | apply below_alloc | apply pw_below_drewN | apply below_drew1 | refine below_set ?_ GE106.out) | exact HB.out))) : w.heap.size ≤ gb107)); have n4_ := Aside0.mk ((by rw [hg]; exact (below_size (by repeat (first | (with_reducible first | exact HB.out | apply below_alloc | apply pw_below_drewN | apply below_drew1 | refine below_set ?_ GE106.out) | exact HB.out))) : w.heap.size ≤ gb107)); have n5_ := Aside0.mk ((by rw [hg]; exact Nat.ne_of_lt (blk_lt (g := gb106) (o := .cells #[.int .u64 a0_0, .int .u32 a0_1] 31 (0, 0)) (by (with_reducible repeat (first | refine blk_drewN ?_ _ | refine blk_drew ?_ | refine blk_alloc ?_ _)); exact BK106.out)) : gb106 ≠ gb107)); have n6_ := Aside0.mk ((by rw [hg]; exact Nat.ne_of_gt (blk_lt (g := gb106) (o := .cells #[.int .u64 a0_0, .int .u32 a0_1] 31 (0, 0)) (by (with_reducible repeat (first | refine blk_drewN ?_ _ | refine blk_drew ?_ | refine blk_alloc ?_ _)); exact BK106.out)) : gb107 ≠ gb106)); clear BK106; clear HB; have BK106 := n0_; have HB := n1_; have BK107 := n2_; have GW107 := n3_; have GE107 := n4_; have NB106_107 := n5_; have NB107_106 := n6_; clear n0_ n1_ n2_ n3_ n4_ n5_ n6_; clear hb hbox hg))
  have n0_ := Aside0.mk (blk_drew BK106.out)
  have n1_ := Aside0.mk (blk_drew BK107.out)
  have n2_ := Aside0.mk (below_drew1 HB.out)
  clear BK106
  clear BK107
  clear HB
  have BK106 := n0_
  have BK107 := n1_
  have HB := n2_
  clear n0_ n1_ n2_
  refine start_ (n := 13) (S := fun w' => w'.cell? ⟨gb106, 0, none⟩ = some (.int .u64 a0_0) ∧ w'.cell? ⟨gb106, 1, none⟩ = some (.int .u32 a0_1) ∧ w'.cell? ⟨gb107, 0, none⟩ = some (.int .u64 a1_0) ∧ w'.cell? ⟨gb107, 1, none⟩ = some (.int .u32 a1_1)) (ds := []) #[false, false, false, false, false, false, false, false, false, false, false, false, false] (by kernel_rfl) rfl rfl ⟨(blk_cell BK106.out 0).trans rfl, (blk_cell BK106.out 1).trans rfl, (blk_cell BK107.out 0).trans rfl, (blk_cell BK107.out 1).trans rfl⟩ (fun hHeld => ?_); refine with_tabW recover_order.tab1 recover_order.bits1 (fun HT_ HW_ => ?_)
  generalize w7.drew = w8 at BK106 BK107 HB hHeld ⊢
  refine pure_ (i := 0) (N := some 5) (v := ?_) (a' := ?_) #[true, false, false, false, false, false, false, false, false, false, false, false, false] rfl rfl (any_of HT_.out (by kernel_rfl)) (fun _ _ _ h => h) (Or.inl ⟨by rfl, ?_⟩) ?_ ?_
  rotate_left
  · intro w'
    go_simp
    with_reducible rfl
  rotate_left
  · simp only [Act.put, List.setIfInBounds_toArray, List.set_cons_zero, List.set_cons_succ, i64_w, i32_w]
    rfl
  refine pure_ (i := 2) (N := some 7) (v := ?_) (a' := ?_) #[true, false, true, false, false, false, false, false, false, false, false, false, false] rfl rfl (any_of HT_.out (by kernel_rfl)) (fun _ _ _ h => h) (Or.inl ⟨by rfl, ?_⟩) ?_ ?_
  rotate_left
  · intro w'
    go_simp
    with_reducible rfl
  rotate_left
  · simp only [Act.put, List.setIfInBounds_toArray, List.set_cons_zero, List.set_cons_succ, i64_w, i32_w]
    rfl
  refine pure_ (i := 5) (N := some 10) (v := ?_) (a' := ?_) #[true, false, true, false, false, true, false, false, false, false, false, false, false] rfl rfl (any_of HT_.out (by kernel_rfl)) (fun _ _ _ h => h) (Or.inl ⟨by rfl, ?_⟩) ?_ ?_
  rotate_left
  · intro w'
    go_simp
    with_reducible rfl
  rotate_left
  · simp only [Act.put, List.setIfInBounds_toArray, List.set_cons_zero, List.set_cons_succ, i64_w, i32_w]
    rfl
  refine pure_ (i := 7) (N := some 12) (v := ?_) (a' := ?_) #[true, false, true, false, false, true, false, true, false, false, false, false, false] rfl rfl (any_of HT_.out (by kernel_rfl)) (fun _ _ _ h => h) (Or.inl ⟨by rfl, ?_⟩) ?_ ?_
  rotate_left
  · intro w'
    go_simp
    with_reducible rfl
  rotate_left
  · simp only [Act.put, List.setIfInBounds_toArray, List.set_cons_zero, List.set_cons_succ, i64_w, i32_w]
    rfl
  refine take_ (i := 1) (N := some 6) (v := ?_) (a' := ?_) #[true, true, true, false, false, true, false, true, false, false, false, false, false] rfl rfl (take_ofW HT_.out HW_.out (by kernel_rfl)) (fun _ _ _ h => h) (Or.inl ⟨by rfl, ?_⟩) hHeld ?_ ?_
  rotate_left
  · rintro w' ⟨s0, s1, s2, s3⟩
    go_simp
    with_reducible rfl
  rotate_left
  · simp only [Act.put, List.setIfInBounds_toArray, List.set_cons_zero, List.set_cons_succ, i64_w, i32_w]
    rfl
  refine take_ (i := 3) (N := some 8) (v := ?_) (a' := ?_) #[true, true, true, true, false, true, false, true, false, false, false, false, false] rfl rfl (take_ofW HT_.out HW_.out (by kernel_rfl)) (fun _ _ _ h => h) (Or.inl ⟨by rfl, ?_⟩) hHeld ?_ ?_
  rotate_left
  · rintro w' ⟨s0, s1, s2, s3⟩
    go_simp
    with_reducible rfl
  rotate_left
  · simp only [Act.put, List.setIfInBounds_toArray, List.set_cons_zero, List.set_cons_succ, i64_w, i32_w]
    rfl
  refine take_ (i := 6) (N := some 11) (v := ?_) (a' := ?_) #[true, true, true, true, false, true, true, true, false, false, false, false, false] rfl rfl (take_ofW HT_.out HW_.out (by kernel_rfl)) (fun _ _ _ h => h) (Or.inl ⟨by rfl, ?_⟩) hHeld ?_ ?_
  rotate_left
  · rintro w' ⟨s0, s1, s2, s3⟩
    go_simp
    with_reducible rfl
  rotate_left
  · simp only [Act.put, List.setIfInBounds_toArray, List.set_cons_zero, List.set_cons_succ, i64_w, i32_w]
    rfl
  refine take_ (i := 8) (N := some 13) (v := ?_) (a' := ?_) #[true, true, true, true, false, true, true, true, true, false, false, false, false] rfl rfl (take_ofW HT_.out HW_.out (by kernel_rfl)) (fun _ _ _ h => h) (Or.inl ⟨by rfl, ?_⟩) hHeld ?_ ?_
  rotate_left
  · rintro w' ⟨s0, s1, s2, s3⟩
    go_simp
    with_reducible rfl
  rotate_left
  · simp only [Act.put, List.setIfInBounds_toArray, List.set_cons_zero, List.set_cons_succ, i64_w, i32_w]
    rfl
  refine one_ (i := 4) (N := some 9) #[true, true, true, true, true, true, true, true, true, false, false, false, false] rfl rfl (one_of HT_.out (by kernel_rfl)) (by decide) (fun K hK => ?_)
  refine goes_ Try.func47 (by kernel_rfl) rfl #[.int .u64 a0_0, .int .u64 a1_0] (by rfl) rfl rfl (by (try simp only [List.map_toArray, List.map_cons, List.map_nil]); first | done | rfl | (simp only [List.length_drop, List.length_take]; rfl)) ?_
  with_reducible refine (cmp_Compare_uint64.calls a0_0 a1_0 t108 _ A3.out).mono ?_
  rintro e w' ⟨rfl, ⟨nd, rfl⟩⟩
  refine ⟨_, rfl, ?_⟩
  refine hK.out _ _ ⟨(blk_cell BK106.out 0).trans rfl, (blk_cell BK106.out 1).trans rfl, (blk_cell BK107.out 0).trans rfl, (blk_cell BK107.out 1).trans rfl⟩ (fun hHeld => ?_)
  clear hK K
  refine norm_ (a' := ?_) ?_ ?_
  rotate_left
  · show Act.put _ (some 9) _ = _
    simp only [Act.put, List.setIfInBounds_toArray, List.set_cons_zero, List.set_cons_succ, i64_w, i32_w]
    rfl
  refine one_ (i := 9) (N := some 14) #[true, true, true, true, true, true, true, true, true, true, false, false, false] rfl rfl (one_of HT_.out (by kernel_rfl)) (by decide) (fun K hK => ?_)
  refine goes_ Try.func48 (by kernel_rfl) rfl #[.int .u32 a0_1, .int .u32 a1_1] (by rfl) rfl rfl (by (try simp only [List.map_toArray, List.map_cons, List.map_nil]); first | done | rfl | (simp only [List.length_drop, List.length_take]; rfl)) ?_
  with_reducible refine (cmp_Compare_uint32.calls a0_1 a1_1 t109 _ A4.out).mono ?_
  rintro e w' ⟨rfl, ⟨nd, rfl⟩⟩
  refine ⟨_, rfl, ?_⟩
  refine hK.out _ _ ⟨(blk_cell BK106.out 0).trans rfl, (blk_cell BK106.out 1).trans rfl, (blk_cell BK107.out 0).trans rfl, (blk_cell BK107.out 1).trans rfl⟩ (fun hHeld => ?_)
  clear hK K
  refine norm_ (a' := ?_) ?_ ?_
  rotate_left
  · show Act.put _ (some 14) _ = _
    simp only [Act.put, List.setIfInBounds_toArray, List.set_cons_zero, List.set_cons_succ, i64_w, i32_w]
    rfl
  refine one_ (i := 10) (N := some 15) #[true, true, true, true, true, true, true, true, true, true, true, false, false] rfl rfl (one_of HT_.out (by kernel_rfl)) (by decide) (fun K hK => ?_)
  refine Kd.R_lit_step (Kd.int .i64) _ 3 ?hg (N := 15) ?hd (xs := ([t108, t109] : List Int)) (inner := [.int .i64 t108, .int .i64 t109]) (ok := fun _ => True) (okp := fun _ => True) ?hr ?hp (fun _ hk => hk) trivial (Below.refl _ _) (Nat.le_refl _) (by simp) ?_; (case hd => rfl); (case hg => rfl); (case hr => first | (go_simp; done) | (go_simp; rfl)); (case hp => exact (Reps.one (show Kd.M (Kd.int .i64) _ _ _ t108 [.int .i64 t108] from rfl) (Reps.one (show Kd.M (Kd.int .i64) _ _ _ t109 [.int .i64 t109] from rfl) (Reps.none _ _))))
  intro v111 w9 ho10 hb hg_ hnew_
  clear hg_ hnew_
  (first | rw [← Ny110.out] at ho10 | (simp only [Int.reduceToNat] at ho10; rw [← Ny110.out] at ho10))
  have n0_ := Aside0.mk (Kd.R_lower ho10 (below_size (by repeat (first | (with_reducible first | exact HB.out | apply below_alloc | apply pw_below_drewN | apply below_drew1 | refine below_set ?_ GE106.out | refine below_set ?_ GE107.out) | exact HB.out))))
  have n1_ := Aside0.mk (blk_below (g := gb106) (o := .cells #[.int .u64 a0_0, .int .u32 a0_1] 31 (0, 0)) (by (with_reducible repeat (first | refine blk_drewN ?_ _ | refine blk_drew ?_ | refine blk_alloc ?_ _)); exact BK106.out) hb)
  have n2_ := Aside0.mk (blk_below (g := gb107) (o := .cells #[.int .u64 a1_0, .int .u32 a1_1] 31 (0, 0)) (by (with_reducible repeat (first | refine blk_drewN ?_ _ | refine blk_drew ?_ | refine blk_alloc ?_ _)); exact BK107.out) hb)
  have n3_ := Aside0.mk (below_step (by repeat (first | (with_reducible first | exact HB.out | apply below_alloc | apply pw_below_drewN | apply below_drew1 | refine below_set ?_ GE106.out | refine below_set ?_ GE107.out) | exact HB.out)) hb)
  clear BK106
  clear BK107
  clear HB
  have HO112 := n0_
  have BK106 := n1_
  have BK107 := n2_
  have HB := n3_
  clear n0_ n1_ n2_ n3_
  clear hb ho10
  obtain ⟨Ao11, co11, eo11⟩ := Kd.R_slice HO112.out
  (first | subst eo11 | (injection eo11 with f1_ f2_ f3_; have f4_ := f1_.symm; have f5_ := f3_.symm; clear f1_ f2_ f3_; subst f4_; subst f5_))
  refine hK.out _ _ ⟨(blk_cell BK106.out 0).trans rfl, (blk_cell BK106.out 1).trans rfl, (blk_cell BK107.out 0).trans rfl, (blk_cell BK107.out 1).trans rfl⟩ (fun hHeld => ?_)
  clear hK K
  refine norm_ (a' := ?_) ?_ ?_
  rotate_left
  · show Act.put _ (some 15) _ = _
    simp only [Act.put, List.setIfInBounds_toArray, List.set_cons_zero, List.set_cons_succ, i64_w, i32_w]
    rfl
  refine one_ (i := 11) (N := some 16) #[true, true, true, true, true, true, true, true, true, true, true, true, false] rfl rfl (one_of HT_.out (by kernel_rfl)) (by decide) (fun K hK => ?_)
  refine goes_ Try.func46 (by kernel_rfl) rfl #[.slice Ao11 y110.length co11] (by rfl) rfl rfl (by (try simp only [List.map_toArray, List.map_cons, List.map_nil]); first | done | rfl | (simp only [List.length_drop, List.length_take]; rfl)) ?_
  with_reducible refine (cmp_Or_int.calls k _ _ y110 t113 _ ?side1 ?side2 A5.out).mono ?_
  (case side1 => repeat (first | exact (Kd.R_reads' HO112.out).2.2 | (with_reducible refine Kd.C_alloc ?_ _) | (with_reducible refine Kd.C_drewN ?_ _) | (with_reducible refine Kd.C_drew ?_)))
  (case side2 => exact (Kd.R_reads' HO112.out).2.1)
  rintro e w' ⟨rfl, ⟨nd, rfl⟩⟩
  refine ⟨_, rfl, ?_⟩
  refine hK.out _ _ ⟨(blk_cell BK106.out 0).trans rfl, (blk_cell BK106.out 1).trans rfl, (blk_cell BK107.out 0).trans rfl, (blk_cell BK107.out 1).trans rfl⟩ (fun hHeld => ?_)
  clear hK K
  refine norm_ (a' := ?_) ?_ ?_
  rotate_left
  · show Act.put _ (some 16) _ = _
    simp only [Act.put, List.setIfInBounds_toArray, List.set_cons_zero, List.set_cons_succ, i64_w, i32_w]
    rfl
  refine pure_ (i := 12) (N := some 4) (v := ?_) (a' := ?_) #[true, true, true, true, true, true, true, true, true, true, true, true, true] rfl rfl (any_of HT_.out (by kernel_rfl)) (fun _ _ _ h => h) (Or.inl ⟨by rfl, ?_⟩) ?_ ?_
  rotate_left
  · intro w'
    go_simp
    with_reducible rfl
  rotate_left
  · simp only [Act.put, List.setIfInBounds_toArray, List.set_cons_zero, List.set_cons_succ, i64_w, i32_w]
    rfl
  refine done_ (done_of HT_.out (by kernel_rfl)) ?_
  try go_wp2
  go_ret
  exact ⟨by first | rfl | (simp [errW_none, errW_some] <;> rfl) | (simp [*, errW_none, errW_some] <;> rfl), by repeat (first | (with_reducible first | exact HB.out | apply below_alloc | apply pw_below_drewN | apply below_drew1 | refine below_set ?_ GE106.out | refine below_set ?_ GE107.out) | exact HB.out)⟩

/-! ### cmp_Or_uint64: function 33 -/
def cmp_Or_uint64.l0 : Nat → Int → List Int → Int → Int → Option (Int)
  | 0, _, _, _, _ => none
  | k + 1, x3, x6, x7, x8 => if x8 < x7 then (if 0 ≤ x8 then (if x8 < (x6.length : Int) then (if (rd x6 x8) = x3 then (cmp_Or_uint64.l0 k x3 x6 x7 (wrap64 (x8 + 1))) else (some (rd x6 x8))) else (none)) else (none)) else (some x3)
def cmp_Or_uint64.f (k : Nat) (l0 : List Int) : Option (Int) := cmp_Or_uint64.l0 k 0 l0 (l0.length : Int) 0
theorem cmp_Or_uint64.mono_l : ∀ k, (∀ y0 y1 y2 y3, LeO (cmp_Or_uint64.l0 k y0 y1 y2 y3) (cmp_Or_uint64.l0 (k + 1) y0 y1 y2 y3))
  | 0 => fun _ _ _ _ r h => by simp [cmp_Or_uint64.l0] at h
  | k + 1 => by
    have ih0 := cmp_Or_uint64.mono_l k
    · intro y0 y1 y2 y3
      unfold cmp_Or_uint64.l0
      repeat' first
      | (with_reducible exact ih0 _ _ _ _)
      | (with_reducible exact LeO.refl _)
      | (with_reducible exact LeO.none _)
      | (with_reducible refine LeO.ite ?_ ?_)
      | (with_reducible refine LeO.bind ?_ (fun _ => ?_))
      | exact ih0 _ _ _ _
      | exact LeO.none _
      | refine LeO.ite ?_ ?_
      | refine LeO.bind ?_ (fun _ => ?_)
theorem cmp_Or_uint64.mono : ∀ a0 k, LeO (cmp_Or_uint64.f k a0) (cmp_Or_uint64.f (k + 1) a0) := by
  intro a0 k
  have ih0 := cmp_Or_uint64.mono_l k
  unfold cmp_Or_uint64.f
  repeat' first
      | (with_reducible exact ih0 _ _ _ _)
      | (with_reducible exact LeO.refl _)
      | (with_reducible exact LeO.none _)
      | (with_reducible refine LeO.ite ?_ ?_)
      | (with_reducible refine LeO.bind ?_ (fun _ => ?_))
      | exact ih0 _ _ _ _
      | exact LeO.none _
      | refine LeO.ite ?_ ?_
      | refine LeO.bind ?_ (fun _ => ?_)
set_option maxHeartbeats 8000000 in
set_option maxRecDepth 100000 in
theorem cmp_Or_uint64.calls (k : Nat) (A0 : Option Addr) (c0 : Nat) (l0 : List Int) (r : Int) (w : World) (hr0 : Kd.C (Kd.int .u64) w A0 l0.length l0) (hc0 : l0.length ≤ c0) (h : cmp_Or_uint64.f k l0 = some r) :
    Calls Try.prog 33 #[.slice A0 l0.length c0] w fun e w' => e = .returned (.int .u64 r) ∧ Drawn0 w w' := by
  have HR0 := Aside0.mk hr0
  have HC0 := Aside0.mk hc0
  clear hr0 hc0
  have H : (cmp_Or_uint64.l0 k 0 l0 (l0.length : Int) 0) = some r := h
  clear h
  have H' := Aside0.mk H
  clear H
  go_enter Try.func33, Try.ntmps33
  go_wp2
  go_loopg [8] k (fun kq v8 w' => ∃ (x8_1 : Int), v8 = .int .i64 x8_1 ∧ Aside0 (cmp_Or_uint64.l0 kq 0 l0 (l0.length : Int) x8_1 = some r) ∧ Aside0 (kq ≤ k) ∧ Drawn0 w w')
  case atStart => exact ⟨(0), (by first | rfl | (simp; done) | (simp [*]; done)), H', ⟨Nat.le_refl _⟩, by repeat (first | exact Drawn0.refl _ | apply Drawn0.step)⟩
  case round =>
    clear H'
    obtain ⟨x8_1, rfl, HA, HK1, ⟨m1, rfl⟩⟩ := hrel
    cases gk with
    | zero => exact absurd HA.out (by simp [cmp_Or_uint64.l0])
    | succ k1 =>
      have H := HA.out
      clear HA
      simp only [cmp_Or_uint64.l0] at H
      by_cases c2 : x8_1 < (l0.length : Int)
      · rw [if_pos c2] at H
        have c2b0 : decide (x8_1 < (l0.length : Int)) = true := decide_eq_true c2
        clear c2
        by_cases c3 : 0 ≤ x8_1
        · rw [if_pos c3] at H
          have c3b0 : decide (0 ≤ x8_1) = true := decide_eq_true c3
          clear c3
          by_cases c4 : x8_1 < (l0.length : Int)
          · rw [if_pos c4] at H
            have c4b0 : decide (x8_1 < (l0.length : Int)) = true := decide_eq_true c4
            clear c4
            by_cases c5 : (rd l0 x8_1) = 0
            · rw [if_pos c5] at H
              have c5b0 : ((rd l0 x8_1) == 0) = true := beq_iff_eq.mpr c5
              have c5b1 : ((rd l0 x8_1) != 0) = false := bne_eq_false_iff_eq.mpr c5
              clear c5
              have H' := Aside0.mk H
              clear H
              have p114 : 0 ≤ (x8_1 : Int) := of_decide_eq_true (by first | (with_reducible assumption) | assumption)
              have q114 : x8_1 < (l0.length : Int) := of_decide_eq_true (by first | (with_reducible assumption) | assumption)
              obtain ⟨ad114, e114, hx114_0⟩ := Kd.at_int HR0.out x8_1 p114 q114
              cases e114
              replace p114 := eq_true p114
              replace q114 := eq_true q114
              go_wp2
              go_roundg k1
              case measure => have := HK1.out; omega
              case rel => exact ⟨(wrap64 (x8_1 + 1)), (by first | rfl | (simp; done) | (simp [*]; done)), H', ⟨by have := HK1.out; omega⟩, by repeat (first | exact Drawn0.refl _ | apply Drawn0.step)⟩
            · rw [if_neg c5] at H
              have c5b0 : ((rd l0 x8_1) == 0) = false := beq_eq_false_iff_ne.mpr c5
              have c5b1 : ((rd l0 x8_1) != 0) = true := bne_iff_ne.mpr c5
              obtain rfl := Option.some.inj H
              have p114 : 0 ≤ (x8_1 : Int) := of_decide_eq_true (by first | (with_reducible assumption) | assumption)
              have q114 : x8_1 < (l0.length : Int) := of_decide_eq_true (by first | (with_reducible assumption) | assumption)
              obtain ⟨ad114, e114, hx114_0⟩ := Kd.at_int HR0.out x8_1 p114 q114
              cases e114
              replace p114 := eq_true p114
              replace q114 := eq_true q114
              go_wp2
              go_ret
              exact ⟨by first | rfl | (simp; done) | (simp [*]; done), by repeat (first | exact Drawn0.refl _ | apply Drawn0.step)⟩
          · rw [if_neg c4] at H
            exact absurd H (by simp)
        · rw [if_neg c3] at H
          exact absurd H (by simp)
      · rw [if_neg c2] at H
        have c2b0 : decide (x8_1 < (l0.length : Int)) = false := decide_eq_false c2
        clear c2
        obtain rfl := Option.some.inj H
        go_wp2
        go_ret
        exact ⟨by first | rfl | (simp; done) | (simp [*]; done), by repeat (first | exact Drawn0.refl _ | apply Drawn0.step)⟩

end Go.Proofs.Ytfepfpcilmaojaa.QO
/- The order of names, as recover.order tells it. -/
namespace Go.Proofs.Ytfepfpcilmaojaa.QV
open Go.RowKit Go.Proofs.YtfepfpcilmaojaaW.PrintWords Go.Proofs.Ytfepfpcilmaojaa.SeqW Go.Proofs.Ytfepfpcilmaojaa.Mp
set_option linter.unusedVariables false
set_option linter.unusedSimpArgs false
set_option maxRecDepth 100000
/-- W is w, with draws and new blocks. -/
def Gr (w W : World) : Prop := ∃ q os, W = Sort.grow (w.drewN q) os
theorem Gr.refl (w : World) : Gr w w := ⟨0, #[], by rw [Sort.grow_empty]; rfl⟩
theorem Gr.trans {a b c : World} (h : Gr a b) (k : Gr b c) : Gr a c := by
  obtain ⟨q, os, rfl⟩ := h
  obtain ⟨q', os', rfl⟩ := k
  refine ⟨q + q', os ++ os', ?_⟩
  simp only [Sort.grow, World.drewN, Array.append_assoc, Nat.add_assoc]
theorem Gr.alloc {a b : World} (h : Gr a b) (o : Obj) : Gr a (b.alloc o) := h.trans ⟨0, #[o], by rw [Sort.alloc_eq_grow]; rfl⟩
theorem Gr.drew {a b : World} (h : Gr a b) : Gr a b.drew := h.trans ⟨1, #[], by rw [Sort.grow_empty]; rfl⟩
theorem Gr.drawn0 {a b c : World} (h : Gr a b) (k : Drawn0 b c) : Gr a c := by
  obtain ⟨n, rfl⟩ := k.out
  exact h.trans ⟨n, #[], by rw [Sort.grow_empty]⟩
theorem Gr.below {a b : World} (h : Gr a b) : Below a.heap.size a b := by
  obtain ⟨q, os, rfl⟩ := h
  exact ⟨rfl, rfl, rfl, by simp [Sort.grow, World.drewN], fun k hk => by simp only [Sort.grow, World.drewN]; exact Array.getElem?_append_left hk⟩
def cU (a b : Int) : Int := if a < b then -1 else if b < a then 1 else 0
/-- The order of names. -/
def cmpNm (a b : Nm) : Int := if cU a.f0 b.f0 = 0 then cU a.f1 b.f1 else cU a.f0 b.f0
theorem cmp64_f (a b : Int) : QO.cmp_Compare_uint64.f a b = some (cU a b) := by
  unfold cU
  have e : (a != a) = false := by simp
  have e' : (b != b) = false := by simp
  by_cases h1 : a < b
  · simp [QO.cmp_Compare_uint64.f, QO.cmp_isNaN_uint64.f, h1]
  · by_cases h2 : b < a
    · simp [QO.cmp_Compare_uint64.f, QO.cmp_isNaN_uint64.f, if_neg h1, if_pos h2]
    · simp [QO.cmp_Compare_uint64.f, QO.cmp_isNaN_uint64.f, if_neg h1, if_neg h2]
theorem cmp32_f (a b : Int) : QO.cmp_Compare_uint32.f a b = some (cU a b) := by
  unfold cU
  have e : (a != a) = false := by simp
  have e' : (b != b) = false := by simp
  by_cases h1 : a < b
  · simp [QO.cmp_Compare_uint32.f, QO.cmp_isNaN_uint32.f, h1]
  · by_cases h2 : b < a
    · simp [QO.cmp_Compare_uint32.f, QO.cmp_isNaN_uint32.f, if_neg h1, if_pos h2]
    · simp [QO.cmp_Compare_uint32.f, QO.cmp_isNaN_uint32.f, if_neg h1, if_neg h2]
theorem or_f (a b : Int) : QO.cmp_Or_int.f 3 [a, b] = some (if a = 0 then b else a) := by
  simp [QO.cmp_Or_int.f, QO.cmp_Or_int.l0, rd, wrap64]
  (repeat split) <;> first | rfl | omega | simp_all

set_option maxHeartbeats 4000000 in
theorem order_any (a b : Nm) (w : World) :
    Calls Try.prog 40 #[.agg #[.int .u64 a.f0, .int .u32 a.f1], .agg #[.int .u64 b.f0, .int .u32 b.f1]] w fun e w' => e = .returned (.int .i64 (cmpNm a b)) ∧ Gr w w' := by
  go_enter Try.func40, Try.ntmps40
  go_wp2
  refine wp_at (S := fun W => Gr w W ∧ W.heap[w.heap.size]? = some (.cells #[.int .u64 a.f0, .int .u32 a.f1] tNm (0, 0)) ∧ W.heap[w.heap.size + 1]? = some (.cells #[.int .u64 b.f0, .int .u32 b.f1] tNm (0, 0))) ⟨((Gr.refl w).alloc _).alloc _, blk_alloc (blk_new w _) _, ?_⟩ ?_
  · have := blk_new (w.alloc (.cells #[.int .u64 a.f0, .int .u32 a.f1] tNm)) (.cells #[.int .u64 b.f0, .int .u32 b.f1] tNm)
    rwa [World.size_alloc] at this
  rintro W0 ⟨hG0, ha, hb⟩
  have S0 : ∀ V, Gr W0 V → V.cell? ⟨w.heap.size, 0, none⟩ = some (.int .u64 a.f0) ∧ V.cell? ⟨w.heap.size, 1, none⟩ = some (.int .u32 a.f1) ∧ V.cell? ⟨w.heap.size + 1, 0, none⟩ = some (.int .u64 b.f0) ∧ V.cell? ⟨w.heap.size + 1, 1, none⟩ = some (.int .u32 b.f1) :=
    fun V hV => ⟨blk_cell (blk_below ha hV.below) 0, blk_cell (blk_below ha hV.below) 1, blk_cell (blk_below hb hV.below) 0, blk_cell (blk_below hb hV.below) 1⟩
  refine (wpIn_wide (n := 0)).1 ?_
  refine wpIn_region_R (l := 0) 13 (S := fun V => V.cell? ⟨w.heap.size, 0, none⟩ = some (.int .u64 a.f0) ∧ V.cell? ⟨w.heap.size, 1, none⟩ = some (.int .u32 a.f1) ∧ V.cell? ⟨w.heap.size + 1, 0, none⟩ = some (.int .u64 b.f0) ∧ V.cell? ⟨w.heap.size + 1, 1, none⟩ = some (.int .u32 b.f1)) (by kernel_rfl) (S0 _ (Gr.refl _).drew) (fun hS0 => ?_)
  refine wpAnyR_take (i := 0) (oi := ⟨some 5, _, _, _, _, _⟩) (v := ?_) (by kernel_rfl) (by kernel_rfl) rfl (by kernel_rfl) (by kernel_rfl) (by kernel_rfl) (fun _ _ _ h => h) (Or.inl ⟨by rfl, ?_⟩) (by assumption) ?_
  rotate_left
  · intro w hSw; (try dsimp only at hSw); (try go_split_ands); go_simp; (try (with_reducible rfl))
  (try simp only [Act.put, List.setIfInBounds_toArray, List.set_cons_zero, List.set_cons_succ])
  refine wpAnyR_take (i := 1) (oi := ⟨some 6, _, _, _, _, _⟩) (v := ?_) (by kernel_rfl) (by kernel_rfl) rfl (by kernel_rfl) (by kernel_rfl) (by kernel_rfl) (fun _ _ _ h => h) (Or.inl ⟨by rfl, ?_⟩) (by assumption) ?_
  rotate_left
  · intro w hSw; (try dsimp only at hSw); (try go_split_ands); go_simp; (try (with_reducible rfl))
  (try simp only [Act.put, List.setIfInBounds_toArray, List.set_cons_zero, List.set_cons_succ])
  refine wpAnyR_take (i := 2) (oi := ⟨some 7, _, _, _, _, _⟩) (v := ?_) (by kernel_rfl) (by kernel_rfl) rfl (by kernel_rfl) (by kernel_rfl) (by kernel_rfl) (fun _ _ _ h => h) (Or.inl ⟨by rfl, ?_⟩) (by assumption) ?_
  rotate_left
  · intro w hSw; (try dsimp only at hSw); (try go_split_ands); go_simp; (try (with_reducible rfl))
  (try simp only [Act.put, List.setIfInBounds_toArray, List.set_cons_zero, List.set_cons_succ])
  refine wpAnyR_take (i := 3) (oi := ⟨some 8, _, _, _, _, _⟩) (v := ?_) (by kernel_rfl) (by kernel_rfl) rfl (by kernel_rfl) (by kernel_rfl) (by kernel_rfl) (fun _ _ _ h => h) (Or.inl ⟨by rfl, ?_⟩) (by assumption) ?_
  rotate_left
  · intro w hSw; (try dsimp only at hSw); (try go_split_ands); go_simp; (try (with_reducible rfl))
  (try simp only [Act.put, List.setIfInBounds_toArray, List.set_cons_zero, List.set_cons_succ])
  refine wpAnyR_take (i := 5) (oi := ⟨some 10, _, _, _, _, _⟩) (v := ?_) (by kernel_rfl) (by kernel_rfl) rfl (by kernel_rfl) (by kernel_rfl) (by kernel_rfl) (fun _ _ _ h => h) (Or.inl ⟨by rfl, ?_⟩) (by assumption) ?_
  rotate_left
  · intro w hSw; (try dsimp only at hSw); (try go_split_ands); go_simp; (try (with_reducible rfl))
  (try simp only [Act.put, List.setIfInBounds_toArray, List.set_cons_zero, List.set_cons_succ])
  refine wpAnyR_take (i := 6) (oi := ⟨some 11, _, _, _, _, _⟩) (v := ?_) (by kernel_rfl) (by kernel_rfl) rfl (by kernel_rfl) (by kernel_rfl) (by kernel_rfl) (fun _ _ _ h => h) (Or.inl ⟨by rfl, ?_⟩) (by assumption) ?_
  rotate_left
  · intro w hSw; (try dsimp only at hSw); (try go_split_ands); go_simp; (try (with_reducible rfl))
  (try simp only [Act.put, List.setIfInBounds_toArray, List.set_cons_zero, List.set_cons_succ])
  refine wpAnyR_take (i := 7) (oi := ⟨some 12, _, _, _, _, _⟩) (v := ?_) (by kernel_rfl) (by kernel_rfl) rfl (by kernel_rfl) (by kernel_rfl) (by kernel_rfl) (fun _ _ _ h => h) (Or.inl ⟨by rfl, ?_⟩) (by assumption) ?_
  rotate_left
  · intro w hSw; (try dsimp only at hSw); (try go_split_ands); go_simp; (try (with_reducible rfl))
  (try simp only [Act.put, List.setIfInBounds_toArray, List.set_cons_zero, List.set_cons_succ])
  refine wpAnyR_take (i := 8) (oi := ⟨some 13, _, _, _, _, _⟩) (v := ?_) (by kernel_rfl) (by kernel_rfl) rfl (by kernel_rfl) (by kernel_rfl) (by kernel_rfl) (fun _ _ _ h => h) (Or.inl ⟨by rfl, ?_⟩) (by assumption) ?_
  rotate_left
  · intro w hSw; (try dsimp only at hSw); (try go_split_ands); go_simp; (try (with_reducible rfl))
  (try simp only [Act.put, List.setIfInBounds_toArray, List.set_cons_zero, List.set_cons_succ])
  refine wpAnyR_one (i := 4) (o := ⟨some 9, _, _, _, _, _⟩) (by kernel_rfl) (by kernel_rfl) rfl (fun K hK => ?_)
  go_simp
  refine (QO.cmp_Compare_uint64.calls a.f0 b.f0 _ _ (cmp64_f _ _)).mono ?_
  rintro e W1 ⟨rfl, hD1⟩
  have hG1 : Gr W0 W1 := ((Gr.refl W0).drew).drawn0 hD1
  (try dsimp only)
  refine hK.out _ _ (.inr (S0 _ hG1)) ?_
  clear hK K
  (try simp only [Act.put, List.setIfInBounds_toArray, List.set_cons_zero, List.set_cons_succ])
  refine wpAnyR_one (i := 9) (o := ⟨some 14, _, _, _, _, _⟩) (by kernel_rfl) (by kernel_rfl) rfl (fun K hK => ?_)
  go_simp
  refine (QO.cmp_Compare_uint32.calls a.f1 b.f1 _ _ (cmp32_f _ _)).mono ?_
  rintro e W2 ⟨rfl, hD2⟩
  have hG2 : Gr W0 W2 := hG1.drawn0 hD2
  (try dsimp only)
  refine hK.out _ _ (.inr (S0 _ hG2)) ?_
  clear hK K
  (try simp only [Act.put, List.setIfInBounds_toArray, List.set_cons_zero, List.set_cons_succ])
  refine wpAnyR_one (i := 10) (o := ⟨some 15, _, _, _, _, _⟩) (by kernel_rfl) (by kernel_rfl) rfl (fun K hK => ?_)
  go_simp
  have hG3 : Gr W0 (W2.alloc (.cells #[.int .i64 (cU a.f0 b.f0), .int .i64 (cU a.f1 b.f1)] 3)) := hG2.alloc _
  refine hK.out _ _ (.inr (S0 _ hG3)) ?_
  clear hK K
  (try simp only [Act.put, List.setIfInBounds_toArray, List.set_cons_zero, List.set_cons_succ])
  have hrd : Kd.C (Kd.int .i64) (W2.alloc (.cells #[.int .i64 (cU a.f0 b.f0), .int .i64 (cU a.f1 b.f1)] 3)) (some ⟨W2.heap.size, 0, none⟩) 2 [cU a.f0 b.f0, cU a.f1 b.f1] := by
    have h := own_lit W2 0 3 .i64 [cU a.f0 b.f0, cU a.f1 b.f1] (Nat.zero_le _) (by simp)
    obtain ⟨A, c, e, hr⟩ := own_reads h
    simp at e
    obtain ⟨rfl, rfl⟩ := e
    exact Kd.C_of_reads hr
  refine wpAnyR_one (i := 11) (o := ⟨some 16, _, _, _, _, _⟩) (by kernel_rfl) (by kernel_rfl) rfl (fun K hK => ?_)
  go_simp
  refine (QO.cmp_Or_int.calls 3 (some ⟨W2.heap.size, 0, none⟩) 2 [cU a.f0 b.f0, cU a.f1 b.f1] _ _ hrd (by simp) (show QO.cmp_Or_int.f 3 [cU a.f0 b.f0, cU a.f1 b.f1] = some (cmpNm a b) from or_f _ _)).mono ?_
  rintro e W4 ⟨rfl, hD4⟩
  have hG4 : Gr W0 W4 := hG3.drawn0 hD4
  (try dsimp only)
  refine hK.out _ _ (.inr (S0 _ hG4)) ?_
  clear hK K
  (try simp only [Act.put, List.setIfInBounds_toArray, List.set_cons_zero, List.set_cons_succ])
  have hS4 := S0 _ hG4
  refine wpAnyR_take (i := 12) (oi := ⟨some 4, _, _, _, _, _⟩) (v := ?_) (by kernel_rfl) (by kernel_rfl) rfl (by kernel_rfl) (by kernel_rfl) (by kernel_rfl) (fun _ _ _ h => h) (Or.inl ⟨by rfl, ?_⟩) (by assumption) ?_
  rotate_left
  · intro w hSw; (try dsimp only at hSw); (try go_split_ands); go_simp; (try (with_reducible rfl))
  (try simp only [Act.put, List.setIfInBounds_toArray, List.set_cons_zero, List.set_cons_succ])
  refine wpAnyR_done (by kernel_rfl) ?_ _
  go_wp2
  go_ret
  exact ⟨rfl, hG0.trans hG4⟩
end Go.Proofs.Ytfepfpcilmaojaa.QV
/- (XSeq, of an iterator whose order is not known) A range over a function, by separation: what an iterator gives (SeqP Pf En: Pf: what may have come; En: what has come at the end), and the law of the statement that ranges over it. M: the blocks that are the consumer's; N: those of what is handed out, if they are new. -/
namespace Go.Proofs.Ytfepfpcilmaojaa.Seq
open Go Go.RowKit
set_option linter.unusedVariables false

/-- B is A but for the blocks of M, and new ones. -/
structure Kpt (M : Nat → Prop) (A B : World) : Prop where
  os : B.os = A.os
  tape : B.tape = A.tape
  output : B.output = A.output
  size : A.heap.size ≤ B.heap.size
  block : ∀ i, i < A.heap.size → ¬ M i → B.heap[i]? = A.heap[i]?
theorem Kpt.refl (M : Nat → Prop) (A : World) : Kpt M A A := ⟨rfl, rfl, rfl, Nat.le_refl _, fun _ _ _ => rfl⟩
theorem Kpt.mono {M M' : Nat → Prop} {A B : World} (h : Kpt M A B) (hm : ∀ i, i < A.heap.size → M i → M' i) : Kpt M' A B := ⟨h.os, h.tape, h.output, h.size, fun i hi hn => h.block i hi (fun k => hn (hm i hi k))⟩
theorem Kpt.trans {M M1 M2 : Nat → Prop} {A B C : World} (h : Kpt M1 A B) (k : Kpt M2 B C) (hm : ∀ i, i < A.heap.size → M1 i ∨ M2 i → M i) : Kpt M A C :=
  ⟨k.os.trans h.os, k.tape.trans h.tape, k.output.trans h.output, Nat.le_trans h.size k.size, fun i hi hn => (k.block i (Nat.lt_of_lt_of_le hi h.size) (fun z => hn (hm i hi (.inr z)))).trans (h.block i hi (fun z => hn (hm i hi (.inl z))))⟩
theorem Kpt.of_below {b : Nat} {A B : World} (h : Below b A B) : Kpt (fun i => b ≤ i) A B := ⟨h.os, h.tape, h.output, h.size, fun i _ hn => h.block i (by omega)⟩
theorem Kpt.of_new {A B : World} (M : Nat → Prop) (h : Below A.heap.size A B) : Kpt M A B := ⟨h.os, h.tape, h.output, h.size, fun i hi _ => h.block i hi⟩
theorem Kpt.below {M : Nat → Prop} {b : Nat} {A B : World} (h : Kpt M A B) (hb : b ≤ A.heap.size) (hm : ∀ i, i < A.heap.size → M i → b ≤ i) : Below b A B := ⟨h.os, h.tape, h.output, h.size, fun i hi => h.block i (by omega) (fun k => by have := hm i (by omega) k; omega)⟩
theorem Kpt.alloc (M : Nat → Prop) (A : World) (o : Obj) : Kpt M A (A.alloc o) := .of_new M ((Below.refl _ A).alloc (Nat.le_refl _) o)
theorem Kpt.drew (M : Nat → Prop) (A : World) : Kpt M A A.drew := ⟨rfl, rfl, rfl, Nat.le_refl _, fun _ _ _ => rfl⟩
theorem Kpt.grown {A B : World} {row : Option Nat} (h : A.grownBy B row) : Kpt (fun i => some i = row) A B := ⟨h.os, h.tape, h.output, h.size, fun i hi hn => h.block i hi hn⟩
theorem Kpt.putObj (A : World) (l : Nat) (o : Obj) : Kpt (fun i => i = l) A (A.putObj l o) := (Kpt.grown (grownBy_putObj' A l o)).mono (fun i _ h => by simpa using h)
theorem Kpt.setCell (A : World) (p : Addr) (v : Value) : Kpt (fun i => i = p.block) A (A.setCell p v) := ⟨rfl, rfl, rfl, by simp, fun i _ hn => Below.heap_setCell _ _ _ i (fun e => hn e)⟩
theorem Kpt.at {M : Nat → Prop} {A B : World} (h : Kpt M A B) {i : Nat} {o : Obj} (hi : A.heap[i]? = some o) (hn : ¬ M i) : B.heap[i]? = some o := (h.block i (Array.getElem?_eq_some_iff.1 hi).1 hn).trans hi

/-- WHAT AN ITERATOR GIVES: whatever the consumer keeps in its own blocks (J, between two rounds; Jx, once it has said 'no more'), if each round takes an element on, the whole list has come, or a beginning of it, at whose last element the consumer has said 'no more'; the iterator has written only what it made itself. -/
def SeqP {α : Type} (P : Program) (g : Nat) (lb : Array Value) (Rd : World → (Nat → Prop) → α → Array Value → Prop) (Pf En : List α → Prop) (w : World) : Prop :=
  ∀ (l : Nat) (J Jx : List α → (Nat → Prop) → World → Prop) (W : World) (M : Nat → Prop),
    Below w.heap.size w W → (∀ i, M i → w.heap.size ≤ i ∧ i < W.heap.size) →
    (∀ pre M A B, J pre M A → Kpt (fun i => W.heap.size ≤ i ∧ ¬ M i) A B → J pre M B) →
    (∀ pre M A B, Jx pre M A → Kpt (fun i => W.heap.size ≤ i ∧ ¬ M i) A B → Jx pre M B) →
    (∀ pre x vs N A M, J pre M A → Pf (pre ++ [x]) → Rd A N x vs → (∀ i, M i → w.heap.size ≤ i ∧ i < A.heap.size) → (∀ i, N i → W.heap.size ≤ i ∧ i < A.heap.size ∧ ¬ M i) → W.heap.size ≤ A.heap.size →
      YieldAt Fence.wide 0 P l vs A fun e B => ∃ M', (∀ i, M' i → (M i ∨ N i ∨ A.heap.size ≤ i) ∧ i < B.heap.size) ∧ Kpt (fun i => M i ∨ N i) A B ∧
        ((e = .returned (.bool true) ∧ J (pre ++ [x]) M' B) ∨ (e = .returned (.bool false) ∧ Jx (pre ++ [x]) M' B))) →
    J [] M W →
    Calls P g (#[.func (.yield l) #[] #[]] ++ lb) W fun e W' => (∃ v, e = .returned v) ∧ ∃ M', (∀ i, M' i → (M i ∨ W.heap.size ≤ i) ∧ i < W'.heap.size) ∧ Kpt M W W' ∧ ((∃ xs, En xs ∧ J xs M' W') ∨ ∃ pre, Pf pre ∧ Jx pre M' W')

/-- How a round's body may be left. -/
def PostS {α : Type} (M N : Nat → Prop) (I : List α → (Nat → Prop) → World → Prop) (Ix : Code → List α → (Nat → Prop) → World → Prop) (xs : List α) (A : World) : Exit → Act → World → Prop
  | .normal, _, B => ∃ M', (∀ i, M' i → (M i ∨ N i ∨ A.heap.size ≤ i) ∧ i < B.heap.size) ∧ Kpt (fun i => M i ∨ N i) A B ∧ I xs M' B
  | .ret, _, B => ∃ M', (∀ i, M' i → (M i ∨ N i ∨ A.heap.size ≤ i) ∧ i < B.heap.size) ∧ Kpt (fun i => M i ∨ N i) A B ∧ Ix .ret xs M' B
  | .exit id, _, B => ∃ M', (∀ i, M' i → (M i ∨ N i ∨ A.heap.size ≤ i) ∧ i < B.heap.size) ∧ Kpt (fun i => M i ∨ N i) A B ∧ Ix (.exit id) xs M' B
  | .goto t, _, B => ∃ M', (∀ i, M' i → (M i ∨ N i ∨ A.heap.size ≤ i) ∧ i < B.heap.size) ∧ Kpt (fun i => M i ∨ N i) A B ∧ Ix (.goto t) xs M' B
  | .panic _, _, _ => False
  | .outgrown, _, _ => False

theorem wpIn_rangeP {α : Type} {P : Program} {n : Nat} {g : Operand} {ps : Array Tmp} {assign body : Code} {Q : Exit → Act → World → Prop} {a : Act} {w : World}
    {gf : Nat} {lb : Array Value} (hg : a.eval g = .func (.func gf) #[] lb) (eg : ∀ args w, (callFunc gf args).run P w = .ok (.enter gf args) w)
    {Rd : World → (Nat → Prop) → α → Array Value → Prop} {Pf En : List α → Prop} {w0 : World} (hseq : SeqP P gf lb Rd Pf En w0) (hb0 : Below w0.heap.size w0 w)
    (hps : ∀ A N x vs, Rd A N x vs → vs.size = ps.size)
    (hRd : ∀ A B N x vs, Rd A N x vs → Kpt (fun i => w0.heap.size ≤ i ∧ ¬ N i) A B → Rd B N x vs)
    (I : List α → (Nat → Prop) → World → Prop) (Ix : Code → List α → (Nat → Prop) → World → Prop)
    (hI : ∀ pre M A B, I pre M A → Kpt (fun i => w.heap.size ≤ i ∧ ¬ M i) A B → I pre M B)
    (hIx : ∀ c pre M A B, Ix c pre M A → Kpt (fun i => w.heap.size ≤ i ∧ ¬ M i) A B → Ix c pre M B)
    (M : Nat → Prop) (hM : ∀ i, M i → w0.heap.size ≤ i ∧ i < w.heap.size) (h0 : I [] M w)
    (Ax : α → Array Value → Act → (Nat → Prop) → World → Prop) (hAx : ∀ x vs a₁ M A B, Ax x vs a₁ M A → Kpt (fun i => w.heap.size ≤ i ∧ ¬ M i) A B → Ax x vs a₁ M B)
    (hassign : ∀ l pre x vs N A M, I pre M A → Pf (pre ++ [x]) → Rd A N x vs → (∀ i, M i → w0.heap.size ≤ i ∧ i < A.heap.size) → (∀ i, N i → w.heap.size ≤ i ∧ i < A.heap.size ∧ ¬ M i) →
      assign.wpIn (Fence.wide.inRound l) 0 P (Exit.then (fun a₁ B => ∃ M', (∀ i, M' i → (M i ∨ A.heap.size ≤ i) ∧ i < B.heap.size) ∧ Kpt M A B ∧ I pre M' B ∧ Ax x vs a₁ M' B) (fun _ _ _ => False))
        { tmps := (ps.zip vs).foldl (fun t (p, v) => t.setIfInBounds p v) a.tmps, defers := [] } A)
    (hbody : ∀ l pre x vs N A M a₁, I pre M A → Pf (pre ++ [x]) → Rd A N x vs → Ax x vs a₁ M A → (∀ i, M i → w0.heap.size ≤ i ∧ i < A.heap.size) → (∀ i, N i → w.heap.size ≤ i ∧ i < A.heap.size ∧ ¬ M i) →
      body.wpIn (Fence.wide.inRound l) 0 P (PostS M N I Ix (pre ++ [x]) A) a₁ A)
    (hdone : ∀ D xs W M', En xs → I xs M' W → Kpt M w W → (∀ i, M' i → (M i ∨ w.heap.size ≤ i) ∧ i < W.heap.size) → W.heap[D]? = some (.deferred (some [])) → w.heap.size ≤ D → ¬ M' D →
      Q .normal { a with defers := { target := .collected D, args := #[] } :: a.defers } W)
    (hstop : ∀ D c pre W M', Pf pre → Ix c pre M' W → Kpt M w W → (∀ i, M' i → (M i ∨ w.heap.size ≤ i) ∧ i < W.heap.size) → W.heap[D]? = some (.deferred (some [])) → w.heap.size ≤ D → ¬ M' D →
      c.wpIn Fence.wide n P Q { a with defers := { target := .collected D, args := #[] } :: a.defers } W) :
    (Code.rangeFunc g ps assign body).wpIn Fence.wide n P Q a w := by
  refine wpIn_rangeFunc ?_
  intro fn hfn
  obtain ⟨rec, hrec⟩ : ∃ rec : LoopState → Option Code → Loop, rec = fun st pe => { state := st, pending := pe, fn, tmps := a.tmps, params := ps, assign, body, defers := w.heap.size } := ⟨_, rfl⟩
  obtain ⟨W1, hW1⟩ : ∃ W1, (w.alloc (.deferred (some []))).alloc (.loop (rec .ready none)) = W1 := ⟨_, rfl⟩
  have hL1 : W1.heap[w.heap.size + 1]? = some (.loop (rec .ready none)) := by
    rw [← hW1]; have := World.alloc_heap_new (w.alloc (.deferred (some []))) (.loop (rec .ready none)); rwa [World.size_alloc] at this
  have hK1 : W1.heap[w.heap.size]? = some (.deferred (some [])) := by
    rw [← hW1]; exact (Below.heap_alloc _ _ _ (by simp)).trans (World.alloc_heap_new w _)
  have hB1 : Below w.heap.size w W1 := by rw [← hW1]; exact ((Below.refl _ w).alloc (Nat.le_refl _) _).alloc (by simp) _
  have hs1 : W1.heap.size = w.heap.size + 2 := by rw [← hW1]; simp
  have hI1 : I [] M W1 := hI _ _ _ _ h0 (.of_new _ hB1)
  have hb1 : Below w0.heap.size w0 W1 := hb0.trans (hB1.mono hb0.size)
  have hw0 : w0.heap.size ≤ w.heap.size := hb0.size
  refine ⟨w.heap.size + 1, [{ target := .collected w.heap.size, args := #[] }], W1, { target := .fn (.func gf) lb, args := #[.func (.yield (w.heap.size + 1)) #[] #[]] }, W1, gf,
    #[.func (.yield (w.heap.size + 1)) #[] #[]] ++ lb, W1, ?_, ?_, ?_, ?_, (fun h => by cases h), ?_⟩
  · rw [← hW1, hrec]; exact run_enterLoop_outer _ _ _ _ _
  · simp only [resolve, hg]
    simp [go_sem]
  · intro f' hf'; trivial
  · simp [invoke, go_sem, eg]
  · obtain ⟨J, hJd⟩ : ∃ J : (LoopState → Option Code → Prop) → ((List α) → (Nat → Prop) → World → Option Code → Prop) → List α → (Nat → Prop) → World → Prop,
        J = fun S X pre Mh A => ∃ M st pe, S st pe ∧ (∀ i, Mh i ↔ (M i ∨ i = w.heap.size + 1 ∨ i = w.heap.size)) ∧ (∀ i, M i → i ≠ w.heap.size + 1 ∧ i ≠ w.heap.size) ∧ X pre M A pe ∧
          A.heap[w.heap.size + 1]? = some (.loop (rec st pe)) ∧ A.heap[w.heap.size]? = some (.deferred (some [])) := ⟨_, rfl⟩
    have hJst : ∀ S X pre Mh A B, (∀ pre M A B pe, X pre M A pe → Kpt (fun i => w.heap.size ≤ i ∧ ¬ M i) A B → X pre M B pe) → J S X pre Mh A → Kpt (fun i => W1.heap.size ≤ i ∧ ¬ Mh i) A B → J S X pre Mh B := by
      intro S X pre Mh A B hX hj hk
      rw [hJd] at hj ⊢
      obtain ⟨M, st, pe, hS, hM1, hM2, hx, hl, hd⟩ := hj
      exact ⟨M, st, pe, hS, hM1, hM2, hX _ _ _ _ _ hx (hk.mono (fun i _ h => ⟨by omega, fun k => h.2 ((hM1 i).2 (.inl k))⟩)), hk.at hl (fun h => h.2 ((hM1 _).2 (.inr (.inl rfl)))), hk.at hd (fun h => h.2 ((hM1 _).2 (.inr (.inr rfl))))⟩
    refine ((callsIn_wide (n := n - 1)).2 (hseq (w.heap.size + 1) (J (fun st pe => st = .ready ∧ pe = none) (fun pre M A _ => I pre M A)) (J (fun st pe => st = .done ∧ pe.isSome = true) (fun pre M A pe => ∃ c, pe = some c ∧ Ix c pre M A)) W1 (fun i => M i ∨ i = w.heap.size + 1 ∨ i = w.heap.size) hb1 ?_ ?_ ?_ ?_ ?_)).mono ?_
    · intro i hi
      rcases hi with h | h | h
      · have := hM i h; omega
      · omega
      · omega
    · intro pre Mh A B hj hk
      exact hJst _ _ _ _ _ _ (fun pre M A B pe h k => hI _ _ _ _ h k) hj hk
    · intro pre Mh A B hj hk
      exact hJst _ _ _ _ _ _ (fun pre M A B pe h k => by obtain ⟨c, e, h⟩ := h; exact ⟨c, e, hIx _ _ _ _ _ h k⟩) hj hk
    · -- ONE ROUND
      intro pre x vs N A Mh hj hpre hrd hMh hN hWA
      rw [hJd] at hj
      obtain ⟨M2, st, pe, ⟨rfl, rfl⟩, hM1, hM2, hi, hl, hd⟩ := hj
      have hMA : ∀ i, M2 i → w0.heap.size ≤ i ∧ i < A.heap.size := fun i h => hMh i ((hM1 i).2 (.inl h))
      have hNA : ∀ i, N i → w.heap.size ≤ i ∧ i < A.heap.size ∧ ¬ M2 i := fun i h => by
        obtain ⟨h1, h2, h3⟩ := hN i h
        exact ⟨by omega, h2, fun k => h3 ((hM1 i).2 (.inl k))⟩
      have hNl : ∀ i, N i → i ≠ w.heap.size + 1 ∧ i ≠ w.heap.size := fun i h => ⟨fun e => (hN i h).2.2 ((hM1 i).2 (.inr (.inl e))), fun e => (hN i h).2.2 ((hM1 i).2 (.inr (.inr e)))⟩
      have hlA : w.heap.size + 1 < A.heap.size := (Array.getElem?_eq_some_iff.1 hl).1
      have hy := run_yield (P := P) (args := vs) hl (by rw [hrec]; exact hps _ _ _ _ hrd)
      rw [hrec] at hy
      refine ⟨fn, _, assign, body, hy, roundIn_of_wpIn hfn (wpIn_mono (hassign _ pre x vs N A M2 hi hpre hrd hMA hNA) ?_)⟩
      rintro e a₁ B hp
      cases e with
      | exit id => exact hp.elim
      | goto t => exact hp.elim
      | ret => exact hp.elim
      | panic c => exact hp.elim
      | outgrown => exact hp.elim
      | normal =>
        obtain ⟨M3, h31, h32, hi3, hax⟩ := hp
        have hl3 : B.heap[w.heap.size + 1]? = some (.loop (rec .ready none)) := h32.at hl (fun h => (hM2 _ h).1 rfl)
        have hd3 : B.heap[w.heap.size]? = some (.deferred (some [])) := h32.at hd (fun h => (hM2 _ h).2 rfl)
        have hM3 : ∀ i, M3 i → i ≠ w.heap.size + 1 ∧ i ≠ w.heap.size := fun i h => by
          rcases (h31 i h).1 with k | k
          · exact hM2 i k
          · omega
        have hNM3 : ∀ i, N i → ¬ M3 i := fun i h k => by
          rcases (h31 i k).1 with z | z
          · exact (hNA i h).2.2 z
          · have := (hNA i h).2.1; omega
        refine ⟨_, run_beginRound hl3 (by rw [hrec]), ?_⟩
        obtain ⟨B2, hB2⟩ : ∃ B2, B.putObj (w.heap.size + 1) (.loop { rec .ready none with state := .busy }) = B2 := ⟨_, rfl⟩
        rw [hB2]
        have hk2 : Kpt (fun i => i = w.heap.size + 1) B B2 := by rw [← hB2]; exact .putObj _ _ _
        have hl2 : B2.heap[w.heap.size + 1]? = some (.loop { rec .ready none with state := .busy }) := by rw [← hB2]; exact World.putObj_heap_same (Array.getElem?_eq_some_iff.1 hl3).1
        have hd2 : B2.heap[w.heap.size]? = some (.deferred (some [])) := hk2.at hd3 (by omega)
        have hsz2 : B2.heap.size = B.heap.size := by rw [← hB2]; simp [World.putObj]
        have hk2M : Kpt (fun i => w.heap.size ≤ i ∧ ¬ M3 i) B B2 := hk2.mono (fun i _ e => ⟨by omega, fun k => (hM3 i k).1 e⟩)
        have hrd2 : Rd B2 N x vs := hRd _ _ _ _ _ hrd (h32.trans hk2 (fun i hi h => by
          rcases h with h | h
          · exact ⟨(hMA i h).1, fun k => (hNA i k).2.2 h⟩
          · exact ⟨by omega, fun k => (hNl i k).1 h⟩))
        have hsAB := h32.size
        refine wpIn_mono (hbody _ pre x vs N B2 M3 a₁ (hI _ _ _ _ hi3 hk2M) hpre hrd2 (hAx _ _ _ _ _ _ hax hk2M) ?_ ?_) ?_
        · intro i h
          have h1 := (h31 i h).2
          rcases (h31 i h).1 with k | k
          · have := hMA i k; omega
          · omega
        · intro i h
          have := hNA i h
          exact ⟨this.1, by omega, hNM3 i h⟩
        have fin : ∀ (jump : Option Code) (B3 : World) (M4 : Nat → Prop), Kpt (fun i => M3 i ∨ N i) B2 B3 → (∀ i, M4 i → (M3 i ∨ N i ∨ B2.heap.size ≤ i) ∧ i < B3.heap.size) →
            (Instr.endRound (w.heap.size + 1) jump).run P B3 = .ok (.bool jump.isNone) (B3.putObj (w.heap.size + 1) (.loop (rec (if jump.isNone then .ready else .done) jump))) ∧
            (B3.putObj (w.heap.size + 1) (.loop (rec (if jump.isNone then .ready else .done) jump))).heap[w.heap.size + 1]? = some (.loop (rec (if jump.isNone then .ready else .done) jump)) ∧
            (B3.putObj (w.heap.size + 1) (.loop (rec (if jump.isNone then .ready else .done) jump))).heap[w.heap.size]? = some (.deferred (some [])) ∧
            Kpt (fun i => Mh i ∨ N i) A (B3.putObj (w.heap.size + 1) (.loop (rec (if jump.isNone then .ready else .done) jump))) ∧
            (∀ i, (M4 i ∨ i = w.heap.size + 1 ∨ i = w.heap.size) → (Mh i ∨ N i ∨ A.heap.size ≤ i) ∧ i < (B3.putObj (w.heap.size + 1) (.loop (rec (if jump.isNone then .ready else .done) jump))).heap.size) ∧
            (∀ i, M4 i → i ≠ w.heap.size + 1 ∧ i ≠ w.heap.size) ∧
            Kpt (fun i => w.heap.size ≤ i ∧ ¬ M4 i) B3 (B3.putObj (w.heap.size + 1) (.loop (rec (if jump.isNone then .ready else .done) jump))) := by
          intro jump B3 M4 hk3 h4
          have hl4 : B3.heap[w.heap.size + 1]? = some (.loop { rec .ready none with state := .busy }) := hk3.at hl2 (fun h => by rcases h with h | h; exact (hM3 _ h).1 rfl; exact (hNl _ h).1 rfl)
          have hd4 : B3.heap[w.heap.size]? = some (.deferred (some [])) := hk3.at hd2 (fun h => by rcases h with h | h; exact (hM3 _ h).2 rfl; exact (hNl _ h).2 rfl)
          have hr := run_endRound (P := P) jump hl4
          have hlt := (Array.getElem?_eq_some_iff.1 hl4).1
          have hsz3 := hk3.size
          have hM4 : ∀ i, M4 i → i ≠ w.heap.size + 1 ∧ i ≠ w.heap.size := fun i h => by
            rcases (h4 i h).1 with k | k | k
            · exact hM3 i k
            · exact hNl i k
            · omega
          have hpo : Kpt (fun i => i = w.heap.size + 1) B3 (B3.putObj (w.heap.size + 1) (.loop (rec (if jump.isNone then .ready else .done) jump))) := .putObj _ _ _
          refine ⟨by rw [hrec] at hr ⊢; exact hr, World.putObj_heap_same hlt, (World.putObj_heap_other (by omega)).trans hd4, ?_, ?_, hM4, hpo.mono (fun i _ e => ⟨by omega, fun k => (hM4 i k).1 e⟩)⟩
          · refine Kpt.trans (M1 := fun i => Mh i ∨ N i) ?_ (hpo.mono (M' := fun i => i = w.heap.size + 1) (fun i _ e => e)) (fun i hi h => by
              rcases h with h | h
              · exact h
              · exact .inl ((hM1 i).2 (.inr (.inl h))))
            refine Kpt.trans (M1 := fun i => Mh i ∨ N i) ?_ hk3 (fun i hi h => by
              rcases h with h | h | h
              · exact h
              · rcases (h31 i h).1 with k | k
                · exact .inl ((hM1 i).2 (.inl k))
                · omega
              · exact .inr h)
            exact h32.trans hk2 (fun i hi h => by
              rcases h with h | h
              · exact .inl ((hM1 i).2 (.inl h))
              · exact .inl ((hM1 i).2 (.inr (.inl h))))
          · intro i h
            have hps : (B3.putObj (w.heap.size + 1) (.loop (rec (if jump.isNone then .ready else .done) jump))).heap.size = B3.heap.size := by simp [World.putObj]
            rw [hps]
            rcases h with h | h | h
            · refine ⟨?_, (h4 i h).2⟩
              rcases (h4 i h).1 with k | k | k
              · rcases (h31 i k).1 with z | z
                · exact .inl ((hM1 i).2 (.inl z))
                · exact .inr (.inr z)
              · exact .inr (.inl k)
              · exact .inr (.inr (by omega))
            · exact ⟨.inl ((hM1 i).2 (.inr (.inl h))), by omega⟩
            · exact ⟨.inl ((hM1 i).2 (.inr (.inr h))), by omega⟩
        rintro e a3 B3 hp
        cases e with
        | normal =>
          obtain ⟨M4, h41, h42, hi4⟩ := hp
          obtain ⟨f1, f2, f3, f4, f5, f6, f7⟩ := fin none B3 M4 h42 h41
          refine ⟨_, _, f1, _, f5, f4, .inl ⟨rfl, ?_⟩⟩
          rw [hJd]
          exact ⟨M4, _, _, ⟨rfl, rfl⟩, fun _ => Iff.rfl, f6, hI _ _ _ _ hi4 f7, f2, f3⟩
        | ret =>
          obtain ⟨M4, h41, h42, hi4⟩ := hp
          obtain ⟨f1, f2, f3, f4, f5, f6, f7⟩ := fin (some .ret) B3 M4 h42 h41
          refine ⟨_, _, f1, _, f5, f4, .inr ⟨rfl, ?_⟩⟩
          rw [hJd]
          exact ⟨M4, _, _, ⟨rfl, rfl⟩, fun _ => Iff.rfl, f6, ⟨_, rfl, hIx _ _ _ _ _ hi4 f7⟩, f2, f3⟩
        | exit id =>
          obtain ⟨M4, h41, h42, hi4⟩ := hp
          obtain ⟨f1, f2, f3, f4, f5, f6, f7⟩ := fin (some (.exit id)) B3 M4 h42 h41
          refine ⟨_, _, f1, _, f5, f4, .inr ⟨rfl, ?_⟩⟩
          rw [hJd]
          exact ⟨M4, _, _, ⟨rfl, rfl⟩, fun _ => Iff.rfl, f6, ⟨_, rfl, hIx _ _ _ _ _ hi4 f7⟩, f2, f3⟩
        | goto t =>
          obtain ⟨M4, h41, h42, hi4⟩ := hp
          obtain ⟨f1, f2, f3, f4, f5, f6, f7⟩ := fin (some (.goto t)) B3 M4 h42 h41
          refine ⟨_, _, f1, _, f5, f4, .inr ⟨rfl, ?_⟩⟩
          rw [hJd]
          exact ⟨M4, _, _, ⟨rfl, rfl⟩, fun _ => Iff.rfl, f6, ⟨_, rfl, hIx _ _ _ _ _ hi4 f7⟩, f2, f3⟩
        | panic ch => exact hp.elim
        | outgrown => exact hp.elim
    · rw [hJd]
      exact ⟨M, _, _, ⟨rfl, rfl⟩, fun _ => Iff.rfl, fun i h => by have := hM i h; omega, hI1, hL1, hK1⟩
    · -- BEHIND THE ITERATOR
      rintro e W2 ⟨⟨v, rfl⟩, Mh, hm1, hk, hj⟩
      have ends : ∀ (M4 : Nat → Prop) (st : LoopState) (pe : Option Code), st ≠ .busy → (∀ i, Mh i ↔ (M4 i ∨ i = w.heap.size + 1 ∨ i = w.heap.size)) → (∀ i, M4 i → i ≠ w.heap.size + 1 ∧ i ≠ w.heap.size) → W2.heap[w.heap.size + 1]? = some (.loop (rec st pe)) → W2.heap[w.heap.size]? = some (.deferred (some [])) →
          (Instr.endLoop (w.heap.size + 1)).run P W2 = .ok pe (W2.putObj (w.heap.size + 1) (.loop (rec .exhausted pe))) ∧
          Kpt (fun i => w.heap.size ≤ i ∧ ¬ M4 i) W2 (W2.putObj (w.heap.size + 1) (.loop (rec .exhausted pe))) ∧ Kpt M w (W2.putObj (w.heap.size + 1) (.loop (rec .exhausted pe))) ∧
          (∀ i, M4 i → (M i ∨ w.heap.size ≤ i) ∧ i < (W2.putObj (w.heap.size + 1) (.loop (rec .exhausted pe))).heap.size) ∧ (W2.putObj (w.heap.size + 1) (.loop (rec .exhausted pe))).heap[w.heap.size]? = some (.deferred (some [])) := by
        intro M4 st pe hst h1 h2 hl hd
        have hr := run_endLoop (P := P) hl (by rw [hrec]; exact hst)
        have hpo : Kpt (fun i => i = w.heap.size + 1) W2 (W2.putObj (w.heap.size + 1) (.loop (rec .exhausted pe))) := .putObj _ _ _
        have hps : (W2.putObj (w.heap.size + 1) (.loop (rec .exhausted pe))).heap.size = W2.heap.size := by simp [World.putObj]
        refine ⟨by rw [hrec] at hr ⊢; exact hr, hpo.mono (fun i _ e => ⟨by omega, fun k => (h2 i k).1 e⟩), ?_, fun i h => ?_, (World.putObj_heap_other (by omega)).trans hd⟩
        · refine Kpt.trans (M1 := M) ((Kpt.of_new M hB1).trans hk (fun i hi h => ?_)) hpo (fun i hi h => ?_)
          · rcases h with h | h | h | h
            · exact h
            · exact h
            · omega
            · omega
          · rcases h with h | h
            · exact h
            · omega
        · rw [hps]
          have := hm1 i ((h1 i).2 (.inl h))
          refine ⟨?_, this.2⟩
          rcases this.1 with (k | k | k) | k
          · exact .inl k
          · exact .inr (by omega)
          · exact .inr (by omega)
          · exact .inr (by omega)
      rcases hj with ⟨xs, hen, hj⟩ | ⟨pre, hpre, hj⟩
      · rw [hJd] at hj
        obtain ⟨M4, st, pe, ⟨rfl, rfl⟩, h1, h2, hi, hl, hd⟩ := hj
        obtain ⟨e1, e2, e3, e4, e5⟩ := ends M4 _ _ (by simp) h1 h2 hl hd
        exact ⟨none, _, e1, hdone _ xs _ M4 hen (hI _ _ _ _ hi e2) e3 e4 e5 (Nat.le_refl _) (fun h => (h2 _ h).2 rfl)⟩
      · rw [hJd] at hj
        obtain ⟨M4, st, pe, ⟨rfl, hp⟩, h1, h2, ⟨c, rfl, hi⟩, hl, hd⟩ := hj
        obtain ⟨e1, e2, e3, e4, e5⟩ := ends M4 _ _ (by simp) h1 h2 hl hd
        exact ⟨some c, _, e1, hstop _ c pre _ M4 hpre (hIx _ _ _ _ _ hi e2) e3 e4 e5 (Nat.le_refl _) (fun h => (h2 _ h).2 rfl)⟩
end Go.Proofs.Ytfepfpcilmaojaa.Seq
/- maps.Keys of a map of versions: the iterator hands out each name once, in some order. -/
namespace Go.Proofs.Ytfepfpcilmaojaa.QV
open Go.RowKit Go.Proofs.YtfepfpcilmaojaaW.PrintWords Go.Proofs.Ytfepfpcilmaojaa.Seq Go.Proofs.Ytfepfpcilmaojaa.Mp Go.Shelf
set_option linter.unusedVariables false
set_option linter.unusedSimpArgs false
attribute [local go_sem] Oper.semAt_some

def RdNm (A : World) (N : Nat → Prop) (x : Nm) (vs : Array Value) : Prop := (∀ i, ¬ N i) ∧ Nok x ∧ vs = #[.agg #[.int .u64 x.f0, .int .u32 x.f1]]
/-- All names at which f has something, each once. -/
def AllOf (f : Nm → Option Value) (xs : List Nm) : Prop := xs.Nodup ∧ (∀ a ∈ xs, Nok a) ∧ ∀ a, Nok a → ((f a).isSome = true ↔ a ∈ xs)
theorem keys_any (mb : Option Nat) (w : World) :
    Calls Try.prog 45 #[.map mb] w fun e w' => e = .returned (.func (.func 51) #[] #[.pointer (some ⟨w.heap.size, 0, none⟩)]) ∧ w' = w.alloc (.cells #[.map mb] tMap) := by
  go_enter Try.func45, Try.ntmps45
  go_wp2
  go_ret
  exact ⟨rfl, rfl⟩

set_option maxRecDepth 100000 in
set_option maxHeartbeats 2000000 in
theorem keys_seq (B b n : Nat) (f : Nm → Option Value) (w : World) (hB : B < w.heap.size) (hcell : w.cell? ⟨B, 0, none⟩ = some (.map (some b))) (hm : MapIs nmK w b n f) :
    SeqP Try.prog 51 #[.pointer (some ⟨B, 0, none⟩)] RdNm (fun pre => pre.length ≤ n) (fun xs => xs.length ≤ n ∧ AllOf f xs) w := by
  intro l J Jx W M hW hM hJ hJx hY h0
  have hcW : W.cell? ⟨B, 0, none⟩ = some (.map (some b)) := (hW.cell (p := ⟨B, 0, none⟩) hB).trans hcell
  have hmW := hm.below hW
  refine (callsIn_wide (n := 0)).1 (callsIn_of_wp Try.func51 rfl trivial ?_ rfl)
  simp only [Try.ntmps51, List.size_toArray, List.length_cons, List.length_nil, Nat.reduceAdd, Nat.reduceSub, Array.replicate_succ, Array.replicate_zero, List.push_toArray, List.append_toArray, List.nil_append, List.cons_append]
  gi_wp2_with (first
    | (gi_at_range; refine wpListIn_range_map _ rfl _ tMap rfl tVer Try.underlying52 rfl hmW ?_; intro w0 cnt0 hrg0 hc0 hg0 hs0)
    | gi_in)
  have hb0 : Below W.heap.size W w0 := (Below.refl _ _).grown hg0 (Nat.le_refl _) (fun k e => by cases e)
  gi_loopw [3] (fun _ wr => ∃ (todo : Nm → Bool) (cnt : Nat) (xs : List Nm) (Mk : Nat → Prop), RangeIs nmK wr b W.heap.size n f todo cnt ∧ xs.length + cnt ≤ n ∧ xs.Nodup ∧ (∀ a ∈ xs, Nok a) ∧ (∀ a, Nok a → ((f a).isSome = true ↔ (todo a = true ∨ a ∈ xs))) ∧ (∀ a ∈ xs, todo a = false) ∧
      J xs Mk wr ∧ (∀ i, Mk i → (M i ∨ W.heap.size ≤ i) ∧ i < wr.heap.size) ∧ ¬ Mk W.heap.size ∧ Kpt M W wr)
    (fun _ wr => wr.rangeLeft b W.heap.size)
  case atStart =>
    exact ⟨_, cnt0, [], M, hrg0, by simpa using hc0, List.nodup_nil, fun a h => (by cases h), fun a ha => by simp, fun a h => (by cases h), hJ _ _ _ _ h0 (Kpt.of_new _ hb0), fun i hi => ⟨.inl hi, Nat.lt_of_lt_of_le (hM i hi).2 hb0.size⟩, fun h => absurd (hM _ h).2 (Nat.lt_irrefl _), Kpt.of_new _ hb0⟩
  case round =>
    obtain ⟨todo, cnt, xs, Mk, hrg, hcs, hnd, hxok, hin, hout, hJk, hMk, hMr, hkp⟩ := hrel
    gi_wp2_with (first
      | (gi_at_next; refine wpListIn_next_map _ rfl _ rfl rfl hrg ?_ ?_)
      | gi_in)
    · -- nothing is left
      intro hc0 hl0
      gi_wp2
      go_end0
      refine ⟨⟨_, rfl⟩, Mk, hMk, hkp, .inl ⟨xs, ⟨by omega, hnd, hxok, fun a ha => ?_⟩, hJk⟩⟩
      rw [hin a ha, hl0 a ha]; simp
    · intro x v w2 cnt2 hxk htd hfv hrg2 hlt hg2 hs2 hen
      rw [nmK_val] at hen
      have hk2 : Kpt (fun i => i = W.heap.size) wr w2 := (Kpt.grown hg2).mono (fun i _ h => by simpa using h)
      have hJ2 : J xs Mk w2 := hJ _ _ _ _ hJk (hk2.mono (fun i _ e => by rw [e]; exact ⟨Nat.le_refl _, hMr⟩))
      have hw0 : w.heap.size ≤ W.heap.size := hW.size
      have hWr : W.heap.size ≤ wr.heap.size := hkp.size
      obtain ⟨w3, hw3⟩ : ∃ w3, w2.alloc (.cells #[.int .u64 x.f0, .int .u32 x.f1] tNm) = w3 := ⟨_, rfl⟩
      have hk3 : Kpt (fun _ => False) w2 w3 := by rw [← hw3]; exact Kpt.alloc _ _ _
      have hb3 := blk_new w2 (.cells #[.int .u64 x.f0, .int .u32 x.f1] tNm)
      rw [hw3, hs2] at hb3
      have hq0 : w3.cell? ⟨wr.heap.size, 0, none⟩ = some (.int .u64 x.f0) := blk_cell hb3 0
      have hq1 : w3.cell? ⟨wr.heap.size, 1, none⟩ = some (.int .u32 x.f1) := blk_cell hb3 1
      have hs3 : w3.heap.size = w2.heap.size + 1 := by rw [← hw3]; simp
      have hYk := hY xs x #[.agg #[.int .u64 x.f0, .int .u32 x.f1]] (fun _ => False) w3 Mk (hJ _ _ _ _ hJ2 (hk3.mono (fun _ _ h => h.elim))) (by simp; omega) ⟨fun _ h => h, hxk, rfl⟩
        (fun i hi => ⟨by rcases (hMk i hi).1 with h | h; exact (hM i h).1; exact Nat.le_trans hw0 h, by have := (hMk i hi).2; omega⟩) (fun i h => h.elim) (by omega)
      obtain ⟨fn, tmps, assign, body, hy, hR⟩ := hYk
      gi_wp2
      refine ⟨rfl, hR.mono ?_⟩
      rintro e W3 ⟨M3, hM3, hk4, h4⟩
      have hbW : b < W.heap.size := hmW.lt
      have hbw := hm.lt
      have hMb : ¬ Mk b := fun h => by
        rcases (hMk b h).1 with z | z
        · have := (hM b z).1; omega
        · omega
      have hK13 : Kpt (fun i => Mk i ∨ i = W.heap.size) wr W3 := (hk2.trans hk3 (M := fun i => i = W.heap.size) (fun _ _ h => h.elim id False.elim)).trans hk4 (fun i hi h => by
        rcases h with h | h | h
        · exact .inr h
        · exact .inl h
        · exact h.elim)
      have hK03 : Kpt M W W3 := hkp.trans hK13 (fun i hi h => by
        rcases h with h | h | h
        · exact h
        · rcases (hMk i h).1 with z | z
          · exact z
          · omega
        · omega)
      have hMM : ∀ i, M3 i → (M i ∨ W.heap.size ≤ i) ∧ i < W3.heap.size := fun i hi => by
        refine ⟨?_, (hM3 i hi).2⟩
        rcases (hM3 i hi).1 with h | h | h
        · exact (hMk i h).1
        · exact h.elim
        · exact .inr (by omega)
      have hMr3 : ¬ M3 W.heap.size := fun h => by
        have hrl := hrg.lt
        rcases (hM3 _ h).1 with z | z | z
        · exact hMr z
        · exact z
        · omega
      rcases h4 with ⟨rfl, hJ3⟩ | ⟨rfl, hJ3⟩
      · have hrg3 : RangeIs nmK W3 b W.heap.size n f (fun z => todo z && !decide (z = x)) cnt2 := by
          have hrl2 := hrg2.lt
          refine hrg2.at ?_ ?_
          · exact (hk4.block b (by omega) (fun h => h.elim hMb id)).trans (hk3.block b (by have := hrg2.map.lt; omega) id)
          · exact (hk4.block _ (by omega) (fun h => h.elim hMr id)).trans (hk3.block _ hrl2 id)
        have hxn : x ∉ xs := fun h => by rw [hout x h] at htd; cases htd
        gi_wp2
        go_roundw
        case rel =>
          refine ⟨_, cnt2, xs ++ [x], M3, hrg3, by simp; omega, ?_, ?_, ?_, ?_, hJ3, hMM, hMr3, hK03⟩
          · rw [List.nodup_append]
            exact ⟨hnd, by simp, fun a ha c hc => by simp at hc; subst hc; exact fun e => hxn (e ▸ ha)⟩
          · intro a ha
            rcases List.mem_append.1 ha with h | h
            · exact hxok a h
            · simp at h; subst h; exact hxk
          · intro a ha
            rw [hin a ha]
            by_cases e : a = x
            · subst e; simp [htd]
            · simp [e]
          · intro a ha
            rcases List.mem_append.1 ha with h | h
            · simp [hout a h]
            · simp at h; subst h; simp
        case measure => rw [hrg3.left_eq, hrg.left_eq]; exact hlt
      · gi_wp2
        refine bodyPost_ret (results_none rfl _ _ _) rfl ?_
        exact ⟨⟨_, rfl⟩, M3, hMM, hK03, .inr ⟨_, by simp; omega, hJ3⟩⟩
end Go.Proofs.Ytfepfpcilmaojaa.QV
/- slices.AppendSeq(nil, seq), slices.Collect(seq) of names. -/
namespace Go.Proofs.Ytfepfpcilmaojaa.QV
open Go.RowKit Go.Proofs.YtfepfpcilmaojaaW.PrintWords Go.Proofs.Ytfepfpcilmaojaa.Seq Go.Proofs.Ytfepfpcilmaojaa.Mp Go.Shelf
set_option linter.unusedVariables false
set_option linter.unusedSimpArgs false
attribute [local go_sem] Oper.semAt_some
abbrev tNms : Nat := 77
def nmC (x : Nm) : List Value := [.int .u64 x.f0, .int .u32 x.f1]
theorem infoNm' : ∃ i, Try.prog.info? tNm = some i ∧ i.zero = some (.agg #[.int .u64 0, .int .u32 0]) ∧ i.size = 2 ∧ i.bytes = 16 := by
  have h : (Try.prog.info? tNm).map (fun i => (i.zero, i.size, i.bytes)) = some (some (.agg #[.int .u64 0, .int .u32 0]), 2, 16) := by kernel_rfl
  obtain ⟨i, hi, h2⟩ := Option.map_eq_some_iff.1 h
  simp at h2
  exact ⟨i, hi, h2.1, h2.2.1, h2.2.2⟩
/-- Between two rounds: what has been gathered lies in a box. -/
def ApI (B b0 : Nat) (pre : List Nm) (M : Nat → Prop) (A : World) : Prop :=
  M B ∧ ∃ v, A.heap[B]? = some (.cells #[v] tNms (0, 0)) ∧ A.ownsRow b0 tNm 2 v pre.length (pre.flatMap nmC) ∧ ∀ k, v.ownBlock = some k → M k ∧ k ≠ B
theorem ApI.kept {B b0 : Nat} {pre : List Nm} {M : Nat → Prop} {A A' : World} {q : Nat → Prop} (h : ApI B b0 pre M A) (hk : Kpt (fun i => q i ∧ ¬ M i) A A') : ApI B b0 pre M A' := by
  obtain ⟨h1, v, h2, h3, h4⟩ := h
  exact ⟨h1, v, hk.at h2 (fun h => h.2 h1), own_move h3 (fun k hk' => hk.block k (own_lt h3 k hk') (fun h => h.2 (h4 k hk').1)), h4⟩

set_option maxRecDepth 100000 in
set_option maxHeartbeats 2000000 in
theorem appendSeq_any (g : Nat) (lb : Array Value) (n : Nat) (En : List Nm → Prop) (w0 w : World) (eg : ∀ args w, (callFunc g args).run Try.prog w = .ok (.enter g args) w)
    (hseq : SeqP Try.prog g lb RdNm (fun pre => pre.length ≤ n) En w0) (hb0 : Below w0.heap.size w0 w) (hn : n * 16 ≤ 140737488355328) :
    Calls Try.prog 54 #[.slice none 0 0, .func (.func g) #[] lb] w fun e w' => ∃ v xs, e = .returned v ∧ En xs ∧ w'.ownsRow w.heap.size tNm 2 v xs.length (xs.flatMap nmC) ∧ Below w.heap.size w w' := by
  obtain ⟨i0, hi, hz0, hz1, hz2⟩ := infoNm'
  refine (callsIn_wide (n := 0)).1 (callsIn_of_wp_marks Try.func54 rfl trivial ?_ rfl)
  simp only [Try.ntmps54, List.size_toArray, List.length_cons, List.length_nil, Nat.reduceAdd, Nat.reduceSub, Array.replicate_succ, Array.replicate_zero, List.push_toArray, List.append_toArray, List.nil_append, List.cons_append]
  gi_wp2
  have hz : w0.heap.size ≤ w.heap.size := hb0.size
  refine wpIn_rangeP (gf := g) (lb := lb) rfl eg hseq (hb0.trans (((Below.refl _ w).alloc (Nat.le_refl _) _).mono hz)) (fun A N x vs h => by obtain ⟨_, _, rfl⟩ := h; rfl) (fun A B N x vs h hk => h)
    (ApI w.heap.size w.heap.size) (fun _ _ _ _ => False) (fun pre M A B h hk => h.kept hk) (fun _ _ _ _ _ h _ => h)
    (fun i => i = w.heap.size) ?hM ?h0 (fun x vs a₁ M A => ∃ bx, M bx ∧ A.heap[bx]? = some (.cells #[.int .u64 x.f0, .int .u32 x.f1] tNm (0, 0)) ∧ bx ≠ w.heap.size ∧ a₁ = { tmps := #[.slice none 0 0, .func (.func g) #[] lb, .pointer (some ⟨w.heap.size, 0, none⟩), undef, .slice none 0 0, .pointer (some ⟨bx, 0, none⟩), .func (.func g) #[] lb, .agg #[.int .u64 x.f0, .int .u32 x.f1], undef, undef, undef, undef, undef], defers := [] })
    (fun x vs a₁ M A B h hk => by obtain ⟨bx, h1, h2, h3⟩ := h; exact ⟨bx, h1, hk.at h2 (fun h => h.2 h1), h3⟩) ?assign ?body ?done ?stop
  case hM => intro i hi; subst hi; simp; omega
  case h0 => exact ⟨rfl, _, World.alloc_heap_new w _, ⟨by simp, .inl ⟨rfl, rfl⟩⟩, fun k hk => by simp [Value.ownBlock] at hk⟩
  case assign =>
    intro l pre x vs N A M hI hpre hrd hM hN
    obtain ⟨_, hxk, rfl⟩ := hrd
    gi_wp2
    have hBA := blk_lt hI.2.choose_spec.1
    refine ⟨fun i => M i ∨ i = A.heap.size, fun i hi => ⟨by rcases hi with h | h; exact .inl h; exact .inr (by omega), by rcases hi with h | h; exact Nat.lt_of_lt_of_le (hM i h).2 (by simp); simp; omega⟩, Kpt.alloc _ _ _, ?_, A.heap.size, .inr rfl, World.alloc_heap_new A _, by omega, rfl⟩
    obtain ⟨h1, v, h2, h3, h4⟩ := hI
    exact ⟨.inl h1, v, blk_alloc h2 _, pw_own_below h3 (below_alloc (Below.refl _ _) _), fun k hk => ⟨.inl (h4 k hk).1, (h4 k hk).2⟩⟩
  case stop =>
    intro D c pre W M' hpre h
    exact h.elim
  case done =>
    intro D xs W M' hen hI hk hM' hD hDw hDM
    obtain ⟨hMB, v, hbx, hS, hvM⟩ := hI
    have hc : W.cell? ⟨w.heap.size, 0, none⟩ = some v := blk_cell hbx 0
    have hB : Below w.heap.size w W := ((Below.refl _ w).alloc (Nat.le_refl _) _).trans (hk.below (by simp) (fun i _ e => by omega))
    gi_wp2
    refine ⟨by simp, .inl ⟨_, _, rfl, run_takeDeferred hD, ?_⟩⟩
    have hp : Kpt (fun i => i = D) W (W.putObj D (.deferred none)) := .putObj _ _ _
    exact ⟨_, results_tmp rfl _ _ _, v, xs, rfl, hen, own_move hS (fun k hk' => hp.block k (own_lt hS k hk') (fun e => hDM (by rw [← e]; exact (hvM k hk').1))), hB.trans (hp.below hB.size (fun i _ e => by rw [e]; simp at hDw; omega))⟩
  case body =>
    intro l pre x vs N A M a₁ hI hpre hrd hax hM hN
    obtain ⟨bx, hMx, hbx2, hxB, rfl⟩ := hax
    obtain ⟨hMB, v, hbx, hS, hvM⟩ := hI
    have hlen : pre.length + 1 ≤ n := by simpa using hpre
    have c0 : A.cell? ⟨w.heap.size, 0, none⟩ = some v := blk_cell hbx 0
    have f0 : A.frozen? ⟨w.heap.size, 0, none⟩ = false := blk_frozen hbx 0
    have x0 : A.cell? ⟨bx, 0, none⟩ = some (.int .u64 x.f0) := blk_cell hbx2 0
    have x1 : A.cell? ⟨bx, 1, none⟩ = some (.int .u32 x.f1) := blk_cell hbx2 1
    have hzA : w.heap.size < A.heap.size := blk_lt hbx
    gi_wp2_with (first
      | (gi_at_builtin; refine wpListIn_append_own_at _ rfl _ _ tNms rfl w.heap.size tNm i0 _ 2 16 Try.underlying77 hi hz0 hz1 hz2 rfl (by decide) v pre.length (pre.flatMap nmC) rfl (pw_own_below hS (below_alloc (Below.refl _ _) _)) ⟨A.heap.size, 0, none⟩ 1 1 (nmC x) rfl rfl (fun j u hj => ?_) (by simp [nmC, Value.oneCell']) (by unfold maxLen; omega) (by omega) (by simp; omega) ?_)
      | gi_in)
    · have h0 : ∀ j, (A.alloc (.cells #[.int .u64 x.f0, .int .u32 x.f1] tNm)).cell? ⟨A.heap.size, j, none⟩ = (#[.int .u64 x.f0, .int .u32 x.f1] : Array Value)[j]? := fun j => blk_cell (blk_new A _) j
      rw [add_plain, h0]
      simpa [nmC] using hj
    · intro v' w1 hown' hg' hnil hat
      obtain ⟨A', c', rfl⟩ := own_slice hown'
      have hbx1 : w1.heap[w.heap.size]? = some (.cells #[v] tNms (0, 0)) := blk_grown (blk_alloc hbx _) hg' (fun e => (hvM _ e.symm).2 rfl)
      have cc : w1.cell? ⟨w.heap.size, 0, none⟩ = some v := blk_cell hbx1 0
      have ff : w1.frozen? ⟨w.heap.size, 0, none⟩ = false := blk_frozen hbx1 0
      gi_wp2
      obtain ⟨w2, hw2⟩ : ∃ w2, w1.setCell ⟨w.heap.size, 0, none⟩ (.slice A' (pre.length + 1) c') = w2 := ⟨_, rfl⟩
      rw [hw2]
      have hk2 : Kpt (fun i => i = w.heap.size) w1 w2 := by rw [← hw2]; exact Kpt.setCell w1 ⟨w.heap.size, 0, none⟩ _
      have hbx2 : w2.heap[w.heap.size]? = some (.cells #[.slice A' (pre.length + 1) c'] tNms (0, 0)) := by rw [← hw2]; exact blk_set hbx1 0 _
      have hs1 : A.heap.size + 1 ≤ w1.heap.size := by have := hg'.size; simpa using this
      have hvB : ∀ k, (Value.slice A' (pre.length + 1) c').ownBlock = some k → ((M k ∧ k ≠ w.heap.size) ∨ A.heap.size ≤ k) := fun k hk => by
        rcases hat with h | h
        · exact .inl (hvM k (by rw [← h]; exact hk))
        · rw [h] at hk; exact .inr (by simp at hk; omega)
      refine ⟨fun i => (M i ∨ A.heap.size ≤ i) ∧ i < w2.heap.size, fun i hi => ⟨by rcases hi.1 with h | h; exact .inl h; exact .inr (.inr h), hi.2⟩, ?_, ⟨.inl hMB, by have := hk2.size; omega⟩, _, hbx2, ?_, fun k hk => ⟨⟨?_, ?_⟩, ?_⟩⟩
      · refine ((Kpt.alloc M A _).trans (Kpt.grown hg') (M := M) (fun i hi h => ?_)).trans hk2 (fun i hi h => ?_)
        · rcases h with h | h
          · exact h
          · exact (hvM i h.symm).1
        · rcases h with h | h
          · exact .inl h
          · rw [h]; exact .inl hMB
      · have h1 := own_move hown' (w1 := w2) (fun k hk => hk2.block k (own_lt hown' k hk) (fun e => by rcases hvB k hk with h | h; exact h.2 e; omega))
        simpa using h1
      · exact (hvB k hk).imp (fun h => h.1) id
      · exact Nat.lt_of_lt_of_le (own_lt hown' k hk) hk2.size
      · intro e; rcases hvB k hk with h | h; exact h.2 e; omega
/-- slices.Collect. -/
theorem collect_any (g : Nat) (lb : Array Value) (n : Nat) (En : List Nm → Prop) (w0 w : World) (eg : ∀ args w, (callFunc g args).run Try.prog w = .ok (.enter g args) w)
    (hseq : SeqP Try.prog g lb RdNm (fun pre => pre.length ≤ n) En w0) (hb0 : Below w0.heap.size w0 w) (hn : n * 16 ≤ 140737488355328) :
    Calls Try.prog 49 #[.func (.func g) #[] lb] w fun e w' => ∃ v xs, e = .returned v ∧ En xs ∧ w'.ownsRow w.heap.size tNm 2 v xs.length (xs.flatMap nmC) ∧ Below w.heap.size w w' := by
  go_enter Try.func49, Try.ntmps49
  go_wp2_with (go_at_call 54; refine (appendSeq_any g lb n En w0 _ eg hseq hb0 hn).mono ?_; rintro e w1 ⟨v, xs, rfl, hen, ho, hB⟩)
  go_ret
  exact ⟨v, xs, rfl, hen, ho, hB⟩
end Go.Proofs.Ytfepfpcilmaojaa.QV
/- The contracts of Go's library that this seat's texts use, at this program: cut out of what the kit's tools lay. -/
namespace Go.Proofs
open Go.Shelf
def Try.lays125_ren : Go.Shelf.Ren := ⟨fun | 125 => 56 | 128 => 65 | 129 => 66 | n => n, fun | 46 => 94 | 3 => 3 | 51 => 29 | 53 => 23 | 4 => 4 | 5 => 5 | 9 => 9 | n => n, fun | n => n⟩
theorem Try.lays125 : Go.Proofs.Lays.n125 Try.prog Try.lays125_ren := {
  mixed := by kernel_rfl
  f125 := Try.func56.trans (congrArg some (by kernel_rfl))
  f128 := Try.func65.trans (congrArg some (by kernel_rfl))
  f129 := Try.func66.trans (congrArg some (by kernel_rfl))
  t3 := Try.underlying3
  a3 := Try.isAgg3
  z3 := Try.sizeOf3
  v3 := Try.zeroValue3
  t4 := Try.underlying4
  a4 := Try.isAgg4
  z4 := Try.sizeOf4
  v4 := Try.zeroValue4
  t5 := Try.underlying5
  a5 := Try.isAgg5
  z5 := Try.sizeOf5
  v5 := Try.zeroValue5
  t9 := Try.underlying9
  a9 := Try.isAgg9
  z9 := Try.sizeOf9
  v9 := Try.zeroValue9
  t46 := Try.underlying94
  a46 := Try.isAgg94
  z46 := Try.sizeOf94
  v46 := Try.zeroValue94
  t51 := Try.underlying29
  a51 := Try.isAgg29
  z51 := Try.sizeOf29
  v51 := Try.zeroValue29
  t53 := Try.underlying23
  a53 := Try.isAgg23
  z53 := Try.sizeOf23
  v53 := Try.zeroValue23 }
/-- bits.Len: "Len returns the minimum number of bits required to represent x; the result is 0 for x == 0.": IT RETURNS 'Lib.bitLen x'; the world is as it was. (A uint has 64 bits in the model.) ITS CALLEE bits.Len64 IS MET BY ITS OWN CONTRACT OFF THE SHELF (lay that first). (LAID: no walk: one application.) -/
theorem Try.bits_Len (x : Int) (w : World) (h0 : 0 ≤ x) (h1 : x ≤ 18446744073709551615) :
    Calls Try.prog 56 #[.int .u64 x] w fun e w' => e = .returned (.int .i64 (Lib.bitLen x.toNat)) ∧ w' = w := Any.bits_Len Try.lays125 x w h0 h1
def Try.laysSlF06_f50_ren : Go.Shelf.Ren := ⟨fun | 6 => 50 | 15 => 56 | 14 => 55 | 28 => 65 | 29 => 66 | 20 => 57 | 21 => 58 | 22 => 59 | 23 => 60 | 24 => 61 | 25 => 62 | 26 => 63 | 27 => 64 | 46 => 67 | 47 => 68 | 48 => 69 | 49 => 70 | 50 => 71 | 57 => 72 | n => n, fun | 22 => 77 | 24 => 31 | 25 => 72 | 3 => 3 | 39 => 94 | 0 => 0 | 53 => 29 | 55 => 23 | 4 => 4 | 46 => 97 | 45 => 96 | 50 => 101 | 5 => 5 | 9 => 9 | 66 => 105 | 70 => 109 | 76 => 111 | 77 => 112 | n => n, fun | n => n⟩
theorem Try.laysSlF06_f50 : Go.Proofs.SlLaysF0.n6 Try.prog Try.laysSlF06_f50_ren := {
  mixed := by kernel_rfl
  f6 := ⟨Try.f50.name, by decide, Try.func50.trans (congrArg some (by kernel_rfl))⟩
  f14 := ⟨Try.f55.name, by decide, Try.func55.trans (congrArg some (by kernel_rfl))⟩
  f15 := Try.func56.trans (congrArg some (by kernel_rfl))
  f20 := ⟨Try.f57.name, by decide, Try.func57.trans (congrArg some (by kernel_rfl))⟩
  f21 := ⟨Try.f58.name, by decide, Try.func58.trans (congrArg some (by kernel_rfl))⟩
  f22 := ⟨Try.f59.name, by decide, Try.func59.trans (congrArg some (by kernel_rfl))⟩
  f23 := ⟨Try.f60.name, by decide, Try.func60.trans (congrArg some (by kernel_rfl))⟩
  f24 := ⟨Try.f61.name, by decide, Try.func61.trans (congrArg some (by kernel_rfl))⟩
  f25 := ⟨Try.f62.name, by decide, Try.func62.trans (congrArg some (by kernel_rfl))⟩
  f26 := ⟨Try.f63.name, by decide, Try.func63.trans (congrArg some (by kernel_rfl))⟩
  f27 := ⟨Try.f64.name, by decide, Try.func64.trans (congrArg some (by kernel_rfl))⟩
  f28 := Try.func65.trans (congrArg some (by kernel_rfl))
  f29 := Try.func66.trans (congrArg some (by kernel_rfl))
  f46 := ⟨Try.f67.name, by decide, Try.func67.trans (congrArg some (by kernel_rfl))⟩
  f47 := Try.func68.trans (congrArg some (by kernel_rfl))
  f48 := Try.func69.trans (congrArg some (by kernel_rfl))
  f49 := ⟨Try.f70.name, by decide, Try.func70.trans (congrArg some (by kernel_rfl))⟩
  f50 := ⟨Try.f71.name, by decide, Try.func71.trans (congrArg some (by kernel_rfl))⟩
  f57 := ⟨Try.f72.name, by decide, Try.func72.trans (congrArg some (by kernel_rfl))⟩
  t0 := Try.underlying0
  a0 := Try.isAgg0
  z0 := Try.sizeOf0
  v0 := Try.zeroValue0
  t3 := Try.underlying3
  a3 := Try.isAgg3
  z3 := Try.sizeOf3
  v3 := Try.zeroValue3
  t4 := Try.underlying4
  a4 := Try.isAgg4
  z4 := Try.sizeOf4
  v4 := Try.zeroValue4
  t5 := Try.underlying5
  a5 := Try.isAgg5
  z5 := Try.sizeOf5
  v5 := Try.zeroValue5
  t9 := Try.underlying9
  a9 := Try.isAgg9
  z9 := Try.sizeOf9
  v9 := Try.zeroValue9
  t22 := Try.underlying77
  a22 := Try.isAgg77
  z22 := Try.sizeOf77
  v22 := Try.zeroValue77
  t25 := Try.underlying72
  a25 := Try.isAgg72
  z25 := Try.sizeOf72
  v25 := Try.zeroValue72
  t39 := Try.underlying94
  a39 := Try.isAgg94
  z39 := Try.sizeOf94
  v39 := Try.zeroValue94
  t45 := Try.underlying96
  a45 := Try.isAgg96
  z45 := Try.sizeOf96
  v45 := Try.zeroValue96
  t46 := Try.underlying97
  a46 := Try.isAgg97
  z46 := Try.sizeOf97
  v46 := Try.zeroValue97
  t50 := Try.underlying101
  a50 := Try.isAgg101
  z50 := Try.sizeOf101
  v50 := Try.zeroValue101
  t53 := Try.underlying29
  a53 := Try.isAgg29
  z53 := Try.sizeOf29
  v53 := Try.zeroValue29
  t55 := Try.underlying23
  a55 := Try.isAgg23
  z55 := Try.sizeOf23
  v55 := Try.zeroValue23
  t66 := Try.underlying105
  a66 := Try.isAgg105
  z66 := Try.sizeOf105
  v66 := Try.zeroValue105
  t70 := Try.underlying109
  a70 := Try.isAgg109
  z70 := Try.sizeOf109
  v70 := Try.zeroValue109
  t76 := Try.underlying111
  a76 := Try.isAgg111
  z76 := Try.sizeOf111
  v76 := Try.zeroValue111
  t77 := Try.underlying112
  a77 := Try.isAgg112
  z77 := Try.sizeOf112
  v77 := Try.zeroValue112 }
open Go.RowKit Go.Lib Go.Sort in
/-- **slices.SortFunc, IN THE DOCUMENTATION's OWN TERMS: A PERMUTATION OF WHAT THE ROW HELD, SORTED BY 'cmp(a, b) < 0'.** Which of two equals comes first is left open ("The sort is not guaranteed to be stable"). (LAID AT THE INSTANCE 'slices.SortFunc[[]hayloft/api.RowId,hayloft/api.RowId]': no walk: one application.) -/
theorem Try.slices_SortFunc {α : Type} [Inhabited α] (k : Nat) (aE : ∀ w, (isAgg (Try.laysSlF06_f50_ren.t 24)).run Try.prog w = .ok true w) (zE : ∀ w, (Go.sizeOf (Try.laysSlF06_f50_ren.t 24)).run Try.prog w = .ok k w) (enc : α → List Value) (hk : ∀ x, (enc x).length = k) (h1 : ∀ x, ∀ v ∈ enc x, v.oneCell' = true) (cf : α → α → Int) (hO : SWO (ltOf cf)) (g : Nat) (cb : Array Value) (blk off cap : Nat) (d : Array α) (w : World) (eg : ∀ args w, (callFunc g args).run Try.prog w = .ok (.enter g args) w) (hcmp : CmpLays Try.prog g cb enc k cf blk off d.size w) (hH : HoldsK enc k w blk off d) (hblk : blk < w.heap.size) (hsz : d.size < 4611686018427387904) :
    Calls Try.prog 50 #[.slice (some ⟨blk, off, none⟩) d.size cap, .func (.func g) #[] cb] w fun e w' =>
      e = .returned (.tuple #[]) ∧ ∃ d' n os, PermIn 0 d.size d d' ∧ SortedIn (ltOf cf) 0 d.size d' ∧ w' = sortWorldK enc k w blk off n d' os := AnyQ.slices_SortFunc Try.laysSlF06_f50 k aE zE enc hk h1 cf hO g cb blk off cap d w eg hcmp hH hblk hsz
end Go.Proofs
/- slices.SortFunc of a row of names of one's own, by recover.order; slices.SortedFunc. -/
namespace Go.Proofs.Ytfepfpcilmaojaa.QV
open Go.RowKit Go.Proofs.YtfepfpcilmaojaaW.PrintWords Go.Proofs.Ytfepfpcilmaojaa.Seq Go.Proofs.Ytfepfpcilmaojaa.Mp Go.Shelf Go.Sort
set_option linter.unusedVariables false
set_option linter.unusedSimpArgs false
theorem flat_get {α : Type} [Inhabited α] (enc : α → List Value) (k : Nat) (hk : ∀ x, (enc x).length = k) (h0 : 0 < k) : ∀ (l : List α) (t : Nat), t < l.length * k → (l.flatMap enc)[t]? = some ((enc l[t / k]!)[t % k]!)
  | [], t, h => by simp at h
  | x :: l, t, h => by
    rw [List.flatMap_cons]
    by_cases ht : t < k
    · rw [List.getElem?_append_left (by rw [hk]; exact ht), Nat.div_eq_of_lt ht, Nat.mod_eq_of_lt ht]
      simp [hk, ht]
    · rw [List.getElem?_append_right (by rw [hk]; omega), hk, flat_get enc k hk h0 l (t - k) (by simp [Nat.add_mul] at h; omega)]
      have e1 : t / k = (t - k) / k + 1 := by
        rw [Nat.div_eq_sub_div h0 (by omega)]
      have e2 : t % k = (t - k) % k := Nat.mod_eq_sub_mod (by omega)
      rw [e1, e2]; simp
theorem flatK_list {α : Type} [Inhabited α] (enc : α → List Value) (k : Nat) (hk : ∀ x, (enc x).length = k) (h0 : 0 < k) (l : List α) : (flatK enc k l.toArray).toList = l.flatMap enc := by
  apply List.ext_getElem?
  intro t
  by_cases h : t < l.length * k
  · rw [flat_get enc k hk h0 l t h, Array.getElem?_toList]
    simp [flatK, h]
  · have hl : (l.flatMap enc).length = l.length * k := by
      clear h
      induction l with
      | nil => simp
      | cons x l ih => rw [List.flatMap_cons, List.length_append, hk, ih]; simp [Nat.add_mul]; omega
    rw [List.getElem?_eq_none (by simp [flatK]; omega), List.getElem?_eq_none (by rw [hl]; omega)]
theorem holdsK_block {α : Type} [Inhabited α] {enc : α → List Value} {k : Nat} (hk : ∀ x, (enc x).length = k) (h0 : 0 < k) {w : World} {g : Nat} {cur : Array Value} {e : TypeId} {l : List α} (hb : w.heap[g]? = some (.cells cur e (0, 0))) (ht : cur.toList.take (l.length * k) = l.flatMap enc) : HoldsK enc k w g 0 l.toArray := by
  intro j hj
  have hj' : j < l.length * k := by simpa using hj
  refine ⟨?_, by simp [World.frozen?, hb]⟩
  have h1 : (cur.toList.take (l.length * k))[j]? = (flatK enc k l.toArray).toList[j]? := by rw [ht, flatK_list enc k hk h0]
  rw [List.getElem?_take_of_lt hj'] at h1
  simp only [World.cell?, hb, Nat.zero_add]
  simp only [Option.isSome_none, Bool.false_eq_true, if_false]
  rw [← Array.getElem?_toList, h1]
  simp [flatK, hj']
theorem heap_sortedK {w : World} {g n : Nat} {os : Array Obj} {cur : Array Value} {e : TypeId} {fr : Nat × Nat} (F : Array Value) (hb : w.heap[g]? = some (.cells cur e fr)) :
    (grow (putRow id (Sort.ahead w n) g 0 F) os).heap[g]? = some (.cells (putCells id 0 F cur) e fr) := by
  have hg : g < w.heap.size := (Array.getElem?_eq_some_iff.1 hb).1
  rw [heap_grow_old _ _ (by simpa using hg)]
  simp [putRow, mapBlock, Sort.ahead, Array.getElem?_modify, hb, onCells]
theorem grownBy_sortedK {w : World} {g n : Nat} {os : Array Obj} (F : Array Value) : w.grownBy (grow (putRow id (Sort.ahead w n) g 0 F) os) (some g) := by
  refine ⟨rfl, rfl, rfl, by simp, fun k hk hne => ?_⟩
  rw [heap_grow_old _ _ (by simpa using hk)]
  have : g ≠ k := fun e => hne (by rw [e])
  simp [putRow, mapBlock, Sort.ahead, Array.getElem?_modify, this]
theorem take_putCellsK (cur F : Array Value) (h : F.size ≤ cur.size) : (putCells id 0 F cur).toList.take F.size = F.toList := by
  apply List.ext_getElem?
  intro j
  by_cases hj : j < F.size
  · rw [List.getElem?_take_of_lt hj, Array.getElem?_toList]
    simp [putCells, hj, show j < cur.size by omega]
  · rw [List.getElem?_take_eq_none (by omega), List.getElem?_eq_none (by simp; omega)]
/-- Behind the sort the same slice owns the sorted list. -/
theorem ownsRow_sortedK {α : Type} [Inhabited α] {enc : α → List Value} {k : Nat} (hk : ∀ x, (enc x).length = k) (h0 : 0 < k) {w : World} {base g cap n : Nat} {e : TypeId} {os : Array Obj} {cur : Array Value} {l l' : List α} (hl : l'.length = l.length) (hbase : base ≤ g) (hb : w.heap[g]? = some (.cells cur e (0, 0)))
    (h1 : l.length ≤ cap) (h2 : cap ≤ maxLen) (h3 : cur.size = cap * k) :
    (grow (putRow id (Sort.ahead w n) g 0 (flatK enc k l'.toArray)) os).ownsRow base e k (.slice (some ⟨g, 0, none⟩) l.length cap) l.length (l'.flatMap enc) := by
  have hsz : (flatK enc k l'.toArray).size = l.length * k := by simp [hl]
  have hle : l.length * k ≤ cap * k := Nat.mul_le_mul_right k h1
  refine ⟨?_, .inr ⟨g, cap, _, rfl, hbase, heap_sortedK _ hb, h1, h2, by simp [putCells, h3], ?_⟩⟩
  · rw [← flatK_list enc k hk h0 l', Array.length_toList, hsz]
  · rw [← hsz, take_putCellsK cur _ (by rw [hsz, h3]; exact hle), flatK_list enc k hk h0]

instance : Inhabited Nm := ⟨⟨0, 0⟩⟩
theorem cmpNm_neg (a b : Nm) : cmpNm a b < 0 ↔ (a.f0 < b.f0 ∨ (a.f0 = b.f0 ∧ a.f1 < b.f1)) := by
  unfold cmpNm cU
  (repeat split) <;> omega
theorem swoNm : SWO (ltOf cmpNm) where
  irrefl x := by simp only [ltOf, decide_eq_false_iff_not, cmpNm_neg]; omega
  trans x y z := by simp only [ltOf, decide_eq_true_eq, cmpNm_neg]; omega
  ntrans x y z := by simp only [ltOf, decide_eq_false_iff_not, cmpNm_neg]; omega
theorem cmpLays (blk off size : Nat) (w : World) : CmpLays Try.prog 40 #[] nmC 2 cmpNm blk off size w := by
  intro m os dk hs x y
  exact (order_any x y _).mono (fun e w' h => ⟨h.1, h.2⟩)
theorem aggNm (w : World) : (isAgg tNm).run Try.prog w = .ok true w := Try.isAgg31 w
theorem sizeNm (w : World) : (Go.sizeOf tNm).run Try.prog w = .ok 2 w := Try.sizeOf31 w
/-- Rising, each once or more. -/
def Rising (ys : List Nm) : Prop := ys.Pairwise (fun a b => ¬ cmpNm b a < 0)

set_option maxHeartbeats 2000000 in
theorem insertion_none (p : Option Addr) (cap : Nat) (fv : Value) (w : World) :
    Calls Try.prog 57 #[.slice p 0 cap, .int .i64 0, .int .i64 0, fv] w fun e w' => e = .returned (.tuple #[]) ∧ w' = w := by
  go_enter Try.func57, Try.ntmps57
  go_wp2
  refine wp_loop_rounds 1 ?_
  rw [rounds_succ]
  go_wp2
  go_end0
  exact ⟨rfl, rfl⟩
set_option maxHeartbeats 2000000 in
theorem pdq_none (p : Option Addr) (cap : Nat) (lim : Int) (fv : Value) (w : World) :
    Calls Try.prog 55 #[.slice p 0 cap, .int .i64 0, .int .i64 0, .int .i64 lim, fv] w fun e w' => e = .returned (.tuple #[]) ∧ w' = w := by
  go_enter Try.func55, Try.ntmps55
  go_wp2
  refine wp_loop_rounds 1 ?_
  rw [rounds_succ]
  go_wp2_with (go_at_call 57; refine (insertion_none _ _ _ _).mono ?_; rintro e w' ⟨rfl, rfl⟩)
  (try simp only [Exit.inBlock, Exit.then]); refine bodyPost_ret (results_none rfl _ _ _) rfl ?_
  exact ⟨rfl, rfl⟩
set_option maxHeartbeats 2000000 in
theorem sort_none (p : Option Addr) (cap : Nat) (fv : Value) (w : World) :
    Calls Try.prog 50 #[.slice p 0 cap, fv] w fun e w' => e = .returned (.tuple #[]) ∧ w' = w := by
  have hl : ∀ W, Calls Try.prog 56 #[.int .u64 0] W fun e w' => e = .returned (.int .i64 (Lib.bitLen 0 : Nat)) ∧ w' = W := fun W => Try.bits_Len 0 W (by omega) (by omega)
  go_enter Try.func50, Try.ntmps50
  go_wp2_with (first | (go_at_call 56; refine (hl _).mono ?_; rintro e w' ⟨rfl, rfl⟩) | (go_at_call 55; refine (pdq_none _ _ _ _ _).mono ?_; rintro e w' ⟨rfl, rfl⟩))
  go_end0
  exact ⟨rfl, rfl⟩
set_option maxHeartbeats 2000000 in
theorem sort_any (v : Value) (xs : List Nm) (b0 : Nat) (w : World) (hv : w.ownsRow b0 tNm 2 v xs.length (xs.flatMap nmC)) (hn : xs.length < 4611686018427387904) :
    Calls Try.prog 50 #[v, .func (.func 40) #[] #[]] w fun e w' => e = .returned (.tuple #[]) ∧ ∃ ys, ys.Perm xs ∧ Rising ys ∧ w'.ownsRow b0 tNm 2 v xs.length (ys.flatMap nmC) ∧ w.grownBy w' v.ownBlock := by
  have hk : ∀ x, (nmC x).length = 2 := fun _ => rfl
  rcases hv.2 with ⟨rfl, h0⟩ | ⟨g, cap, cur, rfl, hbase, hb, h1, h2, h3, h4⟩
  · obtain rfl : xs = [] := List.eq_nil_of_length_eq_zero h0
    refine (sort_none none 0 _ w).mono ?_
    rintro e w' ⟨rfl, rfl⟩
    exact ⟨rfl, [], List.Perm.refl _, List.Pairwise.nil, hv, ⟨rfl, rfl, rfl, Nat.le_refl _, fun _ _ _ => rfl⟩⟩
  · have hH : HoldsK nmC 2 w g 0 xs.toArray := holdsK_block hk (by omega) hb h4
    have hc := Try.slices_SortFunc 2 aggNm sizeNm nmC hk (by intro x v hv; simp [nmC] at hv; rcases hv with rfl | rfl <;> rfl) cmpNm swoNm 40 #[] g 0 cap xs.toArray w (fun args w => by kernel_rfl) (cmpLays _ _ _ _) hH (Array.getElem?_eq_some_iff.1 hb).1 (by simpa using hn)
    rw [List.size_toArray] at hc
    refine hc.mono ?_
    rintro e w' ⟨rfl, d', n, os, ⟨p1, p2, p3⟩, hs, rfl⟩
    have hsz : d'.toList.length = xs.length := by simpa using p1
    refine ⟨rfl, d'.toList, ?_, ?_, ?_, ?_⟩
    · have e1 : d'.extract 0 xs.length = d' := by rw [← hsz, Array.length_toList]; exact Array.extract_size
      have e2 : xs.toArray.extract 0 xs.length = xs.toArray := by
        have : xs.length = xs.toArray.size := by simp
        rw [this]; exact Array.extract_size
      rw [e1, e2] at p3
      simpa using p3
    · rw [Rising, List.pairwise_iff_getElem]
      intro i j hi hj hij
      have h := hs i j (Nat.zero_le _) hij (by omega)
      rw [getElem!_pos d' j (by simpa using hj), getElem!_pos d' i (by simpa using hi)] at h
      simpa [ltOf] using h
    · have := ownsRow_sortedK (n := n) (os := os) (e := tNm) hk (by omega) hsz hbase hb h1 h2 h3
      simpa [sortWorldK, putRowK] using this
    · exact grownBy_sortedK _

set_option maxHeartbeats 1000000 in
theorem sorted_any (g : Nat) (lb : Array Value) (n : Nat) (En : List Nm → Prop) (w0 w : World) (eg : ∀ args w, (callFunc g args).run Try.prog w = .ok (.enter g args) w)
    (hseq : SeqP Try.prog g lb RdNm (fun pre => pre.length ≤ n) En w0) (hb0 : Below w0.heap.size w0 w) (hn : n * 16 ≤ 140737488355328) (hen : ∀ xs, En xs → xs.length ≤ n) :
    Calls Try.prog 44 #[.func (.func g) #[] lb, .func (.func 40) #[] #[]] w fun e w' => ∃ v xs ys, e = .returned v ∧ En xs ∧ ys.Perm xs ∧ Rising ys ∧ w'.ownsRow w.heap.size tNm 2 v ys.length (ys.flatMap nmC) ∧ Below w.heap.size w w' := by
  go_enter Try.func44, Try.ntmps44
  go_wp2_with (go_at_call 49; refine (collect_any g lb n En w0 _ eg hseq hb0 hn).mono ?_; rintro e w1 ⟨v, xs, rfl, hE, ho, hB⟩)
  have hxn := hen xs hE
  obtain ⟨A, c, rfl⟩ := own_slice ho
  go_wp2_with (go_at_call 50; refine (sort_any _ xs w.heap.size _ ho (by omega)).mono ?_; rintro e w2 ⟨rfl, ys, hp, hr, ho2, hg2⟩)
  go_ret
  refine ⟨_, xs, ys, rfl, hE, hp, hr, by rw [hp.length_eq]; exact ho2, hB.grown hg2 hB.size (fun k e => own_base ho k e)⟩
end Go.Proofs.Ytfepfpcilmaojaa.QV
/- recover.rising: the versions of a map, by rising names. -/
namespace Go.Proofs.Ytfepfpcilmaojaa.QV
open Go.RowKit Go.Proofs.YtfepfpcilmaojaaW.PrintWords Go.Proofs.Ytfepfpcilmaojaa.Seq Go.Proofs.Ytfepfpcilmaojaa.Mp Go.Shelf
set_option linter.unusedVariables false
set_option linter.unusedSimpArgs false
set_option maxRecDepth 100000
abbrev kNm : Kd Nm := k31
/-- A version as it lies: with its row's place. -/
structure RawV where
  x : Ver
  A : Option Addr
  c : Nat
def RawV.cells (r : RawV) : List Value := [.int .u64 r.x.f0.f0, .int .u32 r.x.f0.f1, .slice r.A r.x.f1.length r.c, .int .u64 r.x.f2]
def RawV.good (w : World) (r : RawV) : Prop := r.x.f1.length ≤ r.c ∧ kS.C w r.A r.x.f1.length r.x.f1
theorem RawV.good.below {w w' : World} {r : RawV} (h : r.good w) (hb : Below w.heap.size w w') : r.good w' := ⟨h.1, Kd.C_below h.2 hb⟩
theorem reps_nm (w : World) : ∀ ys : List Nm, Reps (kNm.K w) 2 ys (ys.flatMap nmC)
  | [] => Reps.none _ _
  | y :: ys => by
    rw [List.flatMap_cons]
    exact Reps.c2 (k31_mk w y) (reps_nm w ys)
theorem nm_at {w : World} {A : Option Addr} {l : List Nm} (h : kNm.C w A l.length l) (i : Nat) (hi : i < l.length) :
    ∃ ad, A = some ad ∧ w.cell? (ad.add (i * 2)) = some (.int .u64 (l.getD i z31).f0) ∧ w.cell? ⟨(ad.add (i * 2)).block, (ad.add (i * 2)).off + 1, none⟩ = some (.int .u32 (l.getD i z31).f1) := by
  obtain ⟨ad, c, e, hcl, hK, hc⟩ := Kd.C_get h z31 (i : Int) (by omega) (by omega)
  have hx : l.getD (i : Int).toNat z31 = l.getD i z31 := rfl
  rw [hx] at hK
  have hcs := k31_open hK
  subst hcs
  have hs : kNm.sz = 2 := rfl
  have hc' : ∀ j u, [Value.int .u64 (l.getD i z31).f0, .int .u32 (l.getD i z31).f1][j]? = some u → w.cell? (ad.add (i * 2 + j)) = some u := fun j u hj => by
    have := hc j u hj; rwa [hs, Int.toNat_natCast] at this
  exact ⟨ad, e, hc' 0 _ rfl, by rw [← add_field ad (i * 2) 1 (by omega)]; exact hc' 1 _ rfl⟩
theorem infoVer' : ∃ i, Try.prog.info? tVer = some i ∧ i.zero = some (.agg #[.int .u64 0, .int .u32 0, .slice none 0 0, .int .u64 0]) ∧ i.size = 4 ∧ i.bytes = 48 := by
  have h : (Try.prog.info? tVer).map (fun i => (i.zero, i.size, i.bytes)) = some (some (.agg #[.int .u64 0, .int .u32 0, .slice none 0 0, .int .u64 0]), 4, 48) := by kernel_rfl
  obtain ⟨i, hi, h2⟩ := Option.map_eq_some_iff.1 h
  simp at h2
  exact ⟨i, hi, h2.1, h2.2.1, h2.2.2⟩

theorem own_lower' {W : World} {base base' : Nat} {e : TypeId} {size : Nat} {v : Value} {k : Nat} {xs : List Value} (h : W.ownsRow base e size v k xs) (hb : base' ≤ base) : W.ownsRow base' e size v k xs := by
  refine ⟨h.1, ?_⟩
  rcases h.2 with hn | ⟨g, cap, cur, hv, hbg, rest⟩
  · exact .inl hn
  · exact .inr ⟨g, cap, cur, hv, Nat.le_trans hb hbg, rest⟩
set_option maxHeartbeats 4000000 in
theorem rising_any (b n : Nat) (f : Nm → Option Value) (F : Nm → Option Ver) (w : World) (hm : MapIs nmK w b n f) (hF : FIs w f F) (hFk : ∀ k x, F k = some x → x.f0 = k) (hn : n * 48 ≤ 140737488355328) :
    Calls Try.prog 39 #[.map (some b), .func (.func 40) #[] #[]] w fun e w' => ∃ (v : Value) (xs ys : List Nm) (rs : List RawV), e = .returned v ∧ AllOf f xs ∧ xs.length ≤ n ∧ ys.Perm xs ∧ Rising ys ∧ rs.map (fun r : RawV => r.x.f0) = ys ∧ (∀ r ∈ rs, r.good w ∧ F r.x.f0 = some r.x) ∧
      w'.ownsRow w.heap.size tVer 4 v rs.length (rs.flatMap RawV.cells) ∧ Below w.heap.size w w' := by
  obtain ⟨i0, hi, hz0, hz1, hz2⟩ := infoVer'
  go_enter Try.func39, Try.ntmps39
  go_wp2_with (first
    | (go_at_call 45; refine (keys_any _ _).mono ?_; rintro e w1 ⟨rfl, rfl⟩)
    | (go_at_call 44; refine (sorted_any 51 _ n (fun xs => xs.length ≤ n ∧ AllOf f xs) _ _ (fun args w => by kernel_rfl) (keys_seq w.heap.size b n f _ (by simp) (blk_cell (blk_new w _) 0) (hm.below (below_alloc (Below.refl _ _) _))) (Below.refl _ _) (by omega) (fun xs h => h.1)).mono ?_; rintro e w2 ⟨v, xs, ys, rfl, ⟨hxn, hall⟩, hp, hrs, ho, hB2⟩; obtain ⟨Ak, ck, rfl, hCk⟩ := own_reads_row ho (reps_nm w2 ys) rfl)
    | go_in)
  have hB12 : Below w.heap.size w w2 := btr' (below_alloc (Below.refl _ _) _) hB2
  have hyn : ys.length ≤ n := by rw [hp.length_eq]; exact hxn
  have hmax : ys.length ≤ 9223372036854775807 := hCk.2.1
  replace hCk : kNm.C w2 Ak ys.length ys := hCk
  have hyok : ∀ y ∈ ys, Nok y ∧ (f y).isSome = true := fun y hy => by
    have h1 := hp.subset hy
    have h2 := hall.2.1 y h1
    exact ⟨h2, (hall.2.2 y h2).2 h1⟩
  go_loopw [5, 13] (fun u i wr => ∃ (k : Nat) (rs : List RawV), k ≤ ys.length ∧ i = .int .i64 k ∧ rs.length = k ∧ rs.map (fun r : RawV => r.x.f0) = ys.take k ∧ (∀ r ∈ rs, r.good w ∧ F r.x.f0 = some r.x) ∧ wr.ownsRow w2.heap.size tVer 4 u rs.length (rs.flatMap RawV.cells) ∧ Below w2.heap.size w2 wr)
    (fun _ i _ => ys.length - (intOf i).toNat)
  case atStart => exact ⟨0, [], Nat.zero_le _, rfl, rfl, rfl, (fun r h => by cases h), ⟨by simp, .inl ⟨rfl, rfl⟩⟩, Below.refl _ _⟩
  case round =>
    obtain ⟨k, rs, hk, rfl, hrl, hrm, hrg, hown, hBr⟩ := hrel
    by_cases hlt : k < ys.length
    · obtain ⟨ad, e, hc0, hc1⟩ := nm_at hCk k hlt
      subst e
      have hts := take_snoc' z31 ys k hlt
      obtain ⟨hy1, hy2⟩ := hyok _ (getD_mem z31 hlt)
      generalize ys.getD k z31 = y at *
      replace hc0 := pw_cell_below hBr hc0
      replace hc1 := pw_cell_below hBr hc1
      have hBw : Below w.heap.size w wr := btr' hB12 hBr
      obtain ⟨u0, hu0⟩ := Option.isSome_iff_exists.1 hy2
      obtain ⟨x, hFx, Ax, cx, rfl, hlx, hCx⟩ := hF.get hy1 hu0
      have hx0 : x.f0 = y := hFk _ _ hFx
      have wk : wrap64 ((k : Int) + 1) = k + 1 := by unfold wrap64; omega
      have hbr : w2.heap.size ≤ wr.heap.size := hBr.size
      go_wp2_with (first
        | (at_lookup; refine wpList_look1_map _ rfl _ _ tMap rfl tVer Try.underlying52 rfl ((hm.below hBw).below (by repeat (first | exact Below.refl _ _ | apply below_alloc))) (zeroVer _) y hy1 rfl ?_; simp only [hu0, Option.getD_some])
        | (at_builtin; refine wpList_append_own_at _ rfl _ _ 22 rfl w2.heap.size tVer i0 _ 4 48 Try.underlying22 hi hz0 hz1 hz2 rfl (by decide) _ rs.length (rs.flatMap RawV.cells) rfl (pw_own_below hown (by repeat (first | exact Below.refl _ _ | apply below_alloc))) _ 1 1 (RawV.cells ⟨x, Ax, cx⟩) rfl rfl (fun j u hj => ?_) (by simp [RawV.cells, Value.oneCell']) (by unfold maxLen; omega) (by omega) (by simp; omega) ?_)
        | go_in)
      · have h0 := fun j => blk_cell (blk_new (wr.alloc (.cells #[.int .u64 y.f0, .int .u32 y.f1] tNm)) (.cells #[.int .u64 y.f0, .int .u32 y.f1, .slice Ax x.f1.length cx, .int .u64 x.f2] tVer)) j
        rw [World.size_alloc] at h0
        rw [add_plain, h0]
        simpa [RawV.cells, hx0] using hj
      · intro v' w3 hown' hg3 hnil hat3
        go_wp2
        go_roundw
        case rel =>
          have hBx : Below wr.heap.size wr ((wr.alloc (.cells #[.int .u64 y.f0, .int .u32 y.f1] tNm)).alloc (.cells #[.int .u64 y.f0, .int .u32 y.f1, .slice Ax x.f1.length cx, .int .u64 x.f2] tVer)) := by repeat (first | exact Below.refl _ _ | apply below_alloc)
          refine ⟨k + 1, rs ++ [⟨x, Ax, cx⟩], by omega, by go_num, by simp [hrl], ?_, ?_, ?_, (btr' hBr hBx).grown hg3 (by have := hBx.size; omega) (fun k e => own_base hown k e)⟩
          · rw [List.map_append, hrm, ← hts]
            simp [hx0]
          · intro r hr
            rcases List.mem_append.1 hr with h | h
            · exact hrg r h
            · simp at h; subst h; exact ⟨⟨hlx, hCx⟩, by rw [← hFx]; exact congrArg F hx0⟩
          · simpa [List.flatMap_append, hrl] using hown'
        case measure => simp [intOf]; omega
    · obtain rfl : k = ys.length := by omega
      rw [List.take_length] at hrm
      go_wp2
      go_ret
      exact ⟨_, xs, ys, rs, rfl, hall, hxn, hp, hrs, hrm, hrg, own_lower' hown hB12.size, btr' hB12 hBr⟩
end Go.Proofs.Ytfepfpcilmaojaa.QV
/- slices.Clone of a row of values: a row of one's own; nil stays nil. -/
namespace Go.Proofs.Ytfepfpcilmaojaa.QV
open Go.RowKit Go.Proofs.YtfepfpcilmaojaaW.PrintWords
set_option linter.unusedVariables false
set_option linter.unusedSimpArgs false
theorem infoS : (Try.prog.info? 36).map (fun i => (i.zero, i.size, i.bytes)) = some (some (.agg #[.int .i64 0, .bool false, .int .i64 0, .string ⟨#[]⟩]), 4, 40) := by kernel_rfl
theorem kS_KM {w W : World} {base : Nat} {ok : Nat → Prop} (x : S36) (cs : List Value) (h : kS.K w x cs) : kS.M W base ok x cs := by
  rw [k36_open h]; exact k36_mkM _ _ _ _
theorem R_empty' {α : Type} (d : Kd α) (e : Nat) (w : World) (base : Nat) (ok : Nat → Prop) (hb : base ≤ w.heap.size) (hok : ok w.heap.size) : d.R e (w.alloc (.cells #[] e)) base ok (.slice (some ⟨w.heap.size, 0, none⟩) 0 0) [] := by
  refine ⟨fun k hk => ?_, [], ?_, Reps.none _ _⟩
  · have : w.heap.size = k := by simpa [Value.ownBlock] using hk
    subst this
    exact hok
  · have h2 := World.ownsRow_lit (base := base) (e := e) (size := d.sz) w #[] 0 hb (by simp) (by simp)
    simpa using h2

set_option maxHeartbeats 1000000 in
theorem clone_any (A : Option Addr) (l : List S36) (c : Nat) (w : World) (hr : kS.C w A l.length l) (hc : l.length ≤ c) (hb : l.length * 40 ≤ 140737488355328) :
    Calls Try.prog 41 #[.slice A l.length c] w fun e w' => ∃ v, e = .returned v ∧ kS.R tS w' w.heap.size (fun _ => True) v l ∧ Below w.heap.size w w' := by
  have hmax := hr.2.1
  cases A with
  | none =>
    have hl : l = [] := by
      cases l with
      | nil => rfl
      | cons x l => obtain ⟨ad, e, _⟩ := hr.2.2 (by simp); cases e
    subst hl
    have hn := Lib.run_eql_slice_nil (P := Try.prog)
    go_enter Try.func41, Try.ntmps41
    go_wp2
    go_ret
    exact ⟨_, rfl, Kd.R_nil _ _ _ _ _, Below.refl _ _⟩
  | some ad =>
    have hn := Lib.run_eql_slice_nil (P := Try.prog)
    go_enter Try.func41, Try.ntmps41
    go_wp2_with (at_builtin; refine Kd.R_append_rows kS (w0 := w) w.heap.size rfl (.tmp 5) (.tmp 6) 32 36 _ 40 rfl Try.underlying32 infoS rfl (by decide) (by decide) (.slice (some ⟨w.heap.size, 0, none⟩) 0 0) [] l (some ad) l.length c (fun _ => True) (fun _ => False) rfl rfl (R_empty' kS _ _ _ _ (Nat.le_refl _) trivial) (Kd.C_below hr (below_alloc (Below.refl _ _) _)) (fun x cs h => kS_KM x cs h) (fun _ h => h.elim) (fun _ _ => trivial) (below_alloc (Below.refl _ _) _) (by simp) (by simp; omega) ?_; intro v1 w4 hv1 hB7 hg7 hat7; clear hg7 hat7)
    go_ret
    exact ⟨v1, rfl, by simpa using hv1, hB7⟩
end Go.Proofs.Ytfepfpcilmaojaa.QV
/- recover.told: the versions of a map, by rising names, each with a row of its own. -/
namespace Go.Proofs.Ytfepfpcilmaojaa.QV
open Go.RowKit Go.Proofs.YtfepfpcilmaojaaW.PrintWords Go.Proofs.Ytfepfpcilmaojaa.Seq Go.Proofs.Ytfepfpcilmaojaa.Mp Go.Shelf
set_option linter.unusedVariables false
set_option linter.unusedSimpArgs false
set_option maxRecDepth 100000
theorem own_set {w : World} {base g n cap sz j : Nat} {e : TypeId} {cs : List Value} (h : w.ownsRow base e sz (.slice (some ⟨g, 0, none⟩) n cap) n cs) (hj : j < cs.length) (u : Value) :
    (w.setCell ⟨g, j, none⟩ u).ownsRow base e sz (.slice (some ⟨g, 0, none⟩) n cap) n (cs.set j u) := by
  obtain ⟨h1, h2⟩ := h
  rcases h2 with ⟨hv, _⟩ | ⟨g', cap', cur, hv, hb, hh, h3, h4, h5, h6⟩
  · cases hv
  · injection hv with e1 e2 e3
    injection e1 with e1
    injection e1 with e1
    subst e1; subst e3
    refine ⟨by simpa using h1, .inr ⟨g, cap, _, rfl, hb, blk_set hh j u, h3, h4, by simpa using h5, ?_⟩⟩
    rw [Array.toList_setIfInBounds, List.take_set, h6]
theorem cells_len (r : RawV) : r.cells.length = 4 := rfl
theorem flat_set : ∀ (rs : List RawV) (i : Nat) (r' : RawV) (u : Value), i < rs.length → (∀ r, rs[i]? = some r → r'.cells = r.cells.set 2 u) → (rs.set i r').flatMap RawV.cells = (rs.flatMap RawV.cells).set (i * 4 + 2) u
  | [], i, r', u, h, _ => by simp at h
  | r :: rs, 0, r', u, h, hc => by
    rw [List.set_cons_zero, List.flatMap_cons, List.flatMap_cons, hc r rfl, List.set_append_left _ _ (by rw [cells_len]; omega)]
  | r :: rs, i + 1, r', u, h, hc => by
    rw [List.set_cons_succ, List.flatMap_cons, List.flatMap_cons, flat_set rs i r' u (by simpa using h) (fun r hr => hc r (by simpa using hr)), List.set_append_right _ _ (by rw [cells_len]; omega), cells_len]
    congr 2
    omega
theorem flat_at (rs : List RawV) (i : Nat) (h : i < rs.length) (j : Nat) (hj : j < 4) : (rs.flatMap RawV.cells)[i * 4 + j]? = (rs[i]).cells[j]? := by
  induction rs generalizing i with
  | nil => simp at h
  | cons r rs ih =>
    rw [List.flatMap_cons]
    cases i with
    | zero => rw [List.getElem?_append_left (by rw [cells_len]; omega)]; simp
    | succ i =>
      rw [List.getElem?_append_right (by rw [cells_len]; omega), cells_len, show (i + 1) * 4 + j - 4 = i * 4 + j by omega, ih i (by simpa using h)]
      simp
/-- The map told: its versions, by rising names. -/
def IsTold (F : Nm → Option Ver) (L : List Ver) : Prop := L.Pairwise (fun a b => cmpNm a.f0 b.f0 < 0) ∧ (∀ x ∈ L, Nok x.f0 ∧ F x.f0 = some x) ∧ ∀ k, Nok k → (F k).isSome = true → ∃ x ∈ L, x.f0 = k
theorem told_of {f : Nm → Option Value} {F : Nm → Option Ver} {w : World} {xs ys : List Nm} {rs : List RawV} (hF : FIs w f F) (hall : AllOf f xs) (hp : ys.Perm xs) (hr : Rising ys) (hm : rs.map (fun r : RawV => r.x.f0) = ys) (hg : ∀ r ∈ rs, r.good w ∧ F r.x.f0 = some r.x) : IsTold F (rs.map (·.x)) := by
  have hnd : ys.Nodup := hp.nodup_iff.2 hall.1
  have hlt : ys.Pairwise (fun a b => cmpNm a b < 0) := by
    refine (hr.and hnd).imp ?_
    rintro a b ⟨h1, h2⟩
    rw [cmpNm_neg] at h1
    rw [cmpNm_neg]
    by_cases e : a.f0 = b.f0
    · by_cases e' : a.f1 = b.f1
      · exact absurd (Nm.ext' e e') h2
      · omega
    · omega
  refine ⟨?_, ?_, ?_⟩
  · rw [List.pairwise_map]
    rw [← hm, List.pairwise_map] at hlt
    exact hlt
  · intro x hx
    obtain ⟨r, hr, rfl⟩ := List.mem_map.1 hx
    exact ⟨hall.2.1 _ (hp.subset (by rw [← hm]; exact List.mem_map.2 ⟨r, hr, rfl⟩)), (hg r hr).2⟩
  · intro k hk hs
    rw [← hF.some_ hk, hall.2.2 k hk] at hs
    have := hp.symm.subset hs
    rw [← hm] at this
    obtain ⟨r, hr, e⟩ := List.mem_map.1 this
    exact ⟨r.x, List.mem_map.2 ⟨r, hr, rfl⟩, e⟩

/-- The row of versions between two rounds: the first k have rows of their own, element j's between m j and m (j + 1). -/
structure Mid (w W : World) (g cap N : Nat) (L : List Ver) (k : Nat) (m : Nat → Nat) (rs : List RawV) : Prop where
  len : L.length = N
  own : W.ownsRow w.heap.size tVer 4 (.slice (some ⟨g, 0, none⟩) N cap) N (rs.flatMap RawV.cells)
  vers : rs.map (·.x) = L
  old : ∀ j r, k ≤ j → rs[j]? = some r → r.good w
  new : ∀ j r, j < k → rs[j]? = some r → kS.R tS W w.heap.size (fun b => m j ≤ b ∧ b < m (j + 1)) (.slice r.A r.x.f1.length r.c) r.x.f1
  low : ∀ j, w.heap.size ≤ m j ∧ g < m j
  mono : ∀ j, m j ≤ m (j + 1)
  high : m k ≤ W.heap.size
theorem mono_le {m : Nat → Nat} (h : ∀ j, m j ≤ m (j + 1)) {i j : Nat} (hij : i ≤ j) : m i ≤ m j := by
  induction j with
  | zero => have : i = 0 := by omega
            subst this; exact Nat.le_refl _
  | succ j ih =>
    rcases Nat.lt_or_ge j i with h1 | h1
    · have : i = j + 1 := by omega
      subst this; exact Nat.le_refl _
    · exact Nat.le_trans (ih h1) (h j)
theorem Mid.done {w W : World} {g cap N : Nat} {L : List Ver} {m : Nat → Nat} {rs : List RawV} (h : Mid w W g cap N L N m rs) : Kd.S kVer tVer W w.heap.size (fun _ => True) (.slice (some ⟨g, 0, none⟩) N cap) L := by
  obtain rfl := h.len
  have hl : rs.length = L.length := by rw [← h.vers, List.length_map]
  obtain ⟨f, hf⟩ := Kd.reps_tag (d := kVer) (w := W) (base := w.heap.size) (ok := fun k => True ∧ some k ≠ (Value.slice (some ⟨g, 0, none⟩) L.length cap).ownBlock) (xs := L) (inner := rs.flatMap RawV.cells) (fun j b => j < L.length ∧ m j ≤ b ∧ b < m (j + 1))
    (fun i j b hi hj => by
      rcases Nat.lt_trichotomy i j with e | e | e
      · have := mono_le h.mono (show i + 1 ≤ j by omega); omega
      · exact e
      · have := mono_le h.mono (show j + 1 ≤ i by omega); omega)
    (fun j b hb => ⟨trivial, by have := (h.low j).2; simp [Value.ownBlock]; omega⟩) (by
      exact h.own.1) (fun j x hx => by
      have hj : j < L.length := (List.getElem?_eq_some_iff.1 hx).1
      have hjr : j < rs.length := by omega
      obtain ⟨r, hr⟩ : ∃ r, rs[j]? = some r := ⟨_, List.getElem?_eq_getElem hjr⟩
      have hrx : r.x = x := by
        have := h.vers
        have h2 : (rs.map (·.x))[j]? = some r.x := by rw [List.getElem?_map, hr]; rfl
        rw [this, hx] at h2
        exact (Option.some.inj h2).symm
      have hcells : ((rs.flatMap RawV.cells).drop (j * 4)).take 4 = r.cells := by
        apply List.ext_getElem?
        intro t
        by_cases ht : t < 4
        · rw [List.getElem?_take_of_lt ht, List.getElem?_drop, flat_at rs j hjr t ht]
          rw [List.getElem?_eq_getElem hjr] at hr
          rw [Option.some.inj hr]
        · rw [List.getElem?_take_eq_none (by omega), List.getElem?_eq_none (by rw [cells_len]; omega)]
      rw [show kVer.sz = 4 from rfl, hcells, ← hrx]
      exact k34_mkM _ _ _ _ (Kd.R_mono (h.new j r hj hr) (fun b hb => ⟨hj, hb⟩)))
  refine ⟨f, fun k hk => trivial, rs.flatMap RawV.cells, ?_, hf⟩
  have := h.own
  rwa [List.length_zipIdx]
/-- Nothing lies in the row yet that is the call's own. -/
theorem Mid.start {w W : World} {g cap : Nat} {rs : List RawV} (h : W.ownsRow w.heap.size tVer 4 (.slice (some ⟨g, 0, none⟩) rs.length cap) rs.length (rs.flatMap RawV.cells)) (hg : ∀ r ∈ rs, r.good w) (hB : Below w.heap.size w W) : Mid w W g cap rs.length (rs.map (·.x)) 0 (fun _ => W.heap.size) rs where
  len := List.length_map ..
  own := h
  vers := rfl
  old j r _ hr := hg r (List.mem_of_getElem? hr)
  new j r hj _ := absurd hj (by omega)
  low j := ⟨hB.size, own_lt h g rfl⟩
  mono _ := Nat.le_refl _
  high := Nat.le_refl _
/-- One row is laid anew. -/
theorem Mid.step {w W W1 : World} {g cap N : Nat} {L : List Ver} {k : Nat} {m : Nat → Nat} {rs : List RawV} {r : RawV} {A' : Option Addr} {c' : Nat} (h : Mid w W g cap N L k m rs) (hk : k < N) (hr : rs[k]? = some r) (hB : Below W.heap.size W W1)
    (hR : kS.R tS W1 W.heap.size (fun _ => True) (.slice A' r.x.f1.length c') r.x.f1) :
    ∃ m' rs', Mid w (W1.setCell ⟨g, k * 4 + 2, none⟩ (.slice A' r.x.f1.length c')) g cap N L (k + 1) m' rs' := by
  have hl : rs.length = N := by rw [← h.len, ← h.vers, List.length_map]
  have hkr : k < rs.length := by omega
  have hgW : g < W.heap.size := own_lt h.own g rfl
  have hs1 := hB.size
  refine ⟨fun j => if j ≤ k then m j else W1.heap.size, rs.set k ⟨r.x, A', c'⟩, h.len, ?_, ?_, ?_, ?_, ?_, ?_, ?_⟩
  · have h1 := own_set (j := k * 4 + 2) (pw_own_below h.own hB) (by have := h.own.1; rw [this]; omega) (.slice A' r.x.f1.length c')
    rw [flat_set rs k ⟨r.x, A', c'⟩ (.slice A' r.x.f1.length c') hkr (fun q hq => by rw [hr] at hq; cases hq; rfl)]
    exact h1
  · rw [List.map_set, h.vers]
    have : L[k]? = some r.x := by rw [← h.vers, List.getElem?_map, hr]; rfl
    exact List.ext_getElem? (fun i => by
      rw [List.getElem?_set]
      split
      · rename_i e; subst e; rw [this, if_pos (by rw [h.len]; exact hk)]
      · rfl)
  · intro j q hj hq
    rw [List.getElem?_set_ne (by omega)] at hq
    exact h.old j q (by omega) hq
  · intro j q hj hq
    by_cases e : j = k
    · subst e
      rw [List.getElem?_set_self hkr] at hq
      cases hq
      have h2 := Kd.R_mono (Kd.R_bound hR) (ok' := fun b => m j ≤ b ∧ b < W1.heap.size) (fun b hb => ⟨Nat.le_trans h.high hb.2.1, hb.2.2.1⟩)
      have h3 := Kd.R_far (p := ⟨g, j * 4 + 2, none⟩) h2 (fun b hb => by have := (h.low j).2; show b ≠ g; omega) (.slice A' r.x.f1.length c')
      have h4 := Kd.R_lower h3 (show w.heap.size ≤ W.heap.size from Nat.le_trans (h.low 0).1 (Nat.le_trans (mono_le h.mono (Nat.zero_le j)) h.high))
      have e1 : ¬ (j + 1 ≤ j) := by omega
      simpa [e1] using h4
    · rw [List.getElem?_set_ne (by omega)] at hq
      have h2 := Kd.R_below (h.new j q (by omega) hq) hB
      have h3 := Kd.R_far (p := ⟨g, k * 4 + 2, none⟩) h2 (fun b hb => by have := (h.low j).2; show b ≠ g; omega) (.slice A' r.x.f1.length c')
      simpa [show j ≤ k by omega, show j + 1 ≤ k by omega] using h3
  · intro j
    show w.heap.size ≤ (if j ≤ k then m j else W1.heap.size) ∧ g < (if j ≤ k then m j else W1.heap.size)
    split
    · exact h.low j
    · exact ⟨Nat.le_trans (h.low k).1 (Nat.le_trans h.high hs1), by omega⟩
  · intro j
    show (if j ≤ k then m j else W1.heap.size) ≤ (if j + 1 ≤ k then m (j + 1) else W1.heap.size)
    split
    · split
      · exact h.mono j
      · have := mono_le h.mono (show j ≤ k by omega); have := h.high; omega
    · rw [if_neg (by omega)]; exact Nat.le_refl _
  · show (if k + 1 ≤ k then m (k + 1) else W1.heap.size) ≤ _
    rw [if_neg (by omega)]; simp

/-- v is a row of versions that a call of its own has laid: with nothing in it, or as 'Mid' has it. -/
def OwnV (w W : World) (v : Value) (L : List Ver) : Prop :=
  (L = [] ∧ ∃ A c, v = .slice A 0 c ∧ W.ownsRow w.heap.size tVer 4 (.slice A 0 c) 0 []) ∨ (0 < L.length ∧ ∃ g cap m rs, v = .slice (some ⟨g, 0, none⟩) L.length cap ∧ Mid w W g cap L.length L L.length m rs)
theorem own_nil_S {w : World} {base : Nat} {A : Option Addr} {c : Nat} (h : w.ownsRow base tVer 4 (.slice A 0 c) 0 []) : Kd.S kVer tVer w base (fun _ => True) (.slice A 0 c) [] :=
  ⟨fun _ => 0, fun _ _ => trivial, [], h, Reps.none _ _⟩
theorem OwnV.S {w W : World} {v : Value} {L : List Ver} (h : OwnV w W v L) : Kd.S kVer tVer W w.heap.size (fun _ => True) v L := by
  rcases h with ⟨rfl, A, c, rfl, h⟩ | ⟨_, g, cap, m, rs, rfl, h⟩
  · exact own_nil_S h
  · exact h.done
set_option maxHeartbeats 4000000 in
theorem told_any (b n : Nat) (F : Nm → Option Ver) (f : Nm → Option Value) (w : World) (hm : MapIs nmK w b n f) (hF : FIs w f F) (hFk : ∀ k x, F k = some x → x.f0 = k) (hn : n * 48 ≤ 140737488355328) (hrow : ∀ k x, F k = some x → x.f1.length * 40 ≤ 140737488355328) :
    Calls Try.prog 28 #[.map (some b)] w fun e w' => ∃ v L, e = .returned v ∧ IsTold F L ∧ L.length ≤ n ∧ OwnV w w' v L ∧ Below w.heap.size w w' := by
  go_enter Try.func28, Try.ntmps28
  go_wp2_with (first
    | (go_at_call 39; refine (rising_any b n f F _ hm hF hFk hn).mono ?_; rintro e w1 ⟨v, xs, ys, rs, rfl, hall, hxn, hp, hrs, hmm, hg, ho, hB⟩; obtain ⟨A0, c0, rfl⟩ := own_slice ho)
    | go_in)
  have hT := told_of hF hall hp hrs hmm hg
  have hln : rs.length ≤ n := by rw [← List.length_map (f := fun r : RawV => r.x.f0), hmm, hp.length_eq]; exact hxn
  rcases Nat.eq_zero_or_pos rs.length with h0 | h0
  · have hnil : rs = [] := List.eq_nil_of_length_eq_zero h0
    subst hnil
    go_loopw [9] (fun i wr => i = .int .i64 0 ∧ wr = w1) (fun i _ => 0)
    case atStart => exact ⟨rfl, rfl⟩
    case round =>
      obtain ⟨rfl, rfl⟩ := hrel
      go_wp2
      go_ret
      exact ⟨_, [], rfl, hT, Nat.zero_le _, .inl ⟨rfl, _, _, rfl, ho⟩, hB⟩
  · obtain ⟨g, cap, hv, _, _⟩ := ho.form h0
    injection hv with hv1 _ hv3
    subst hv1; subst hv3
    have hM0 := Mid.start ho (fun r hr => (hg r hr).1) hB
    have hmax : rs.length ≤ 9223372036854775807 := by omega
    have hrowL : ∀ x ∈ rs.map (·.x), x.f1.length * 40 ≤ 140737488355328 := fun x hx => by
      obtain ⟨r, hr, rfl⟩ := List.mem_map.1 hx
      exact hrow _ _ (hg r hr).2
    have hLl : (rs.map (·.x)).length ≤ n := by simpa using hln
    generalize rs.map (·.x) = L at *
    go_loopw [9] (fun i wr => ∃ (k : Nat) (m : Nat → Nat) (rs' : List RawV), k ≤ rs.length ∧ i = .int .i64 k ∧ Mid w wr g c0 rs.length L k m rs' ∧ Below w.heap.size w wr)
      (fun i _ => rs.length - (intOf i).toNat)
    case atStart => exact ⟨0, _, rs, Nat.zero_le _, rfl, hM0, hB⟩
    case round =>
      obtain ⟨k, m, rs', hk, rfl, hM, hBr⟩ := hrel
      by_cases hlt : k < rs.length
      · have hl' : rs'.length = rs.length := by rw [← hM.len, ← hM.vers, List.length_map]
        obtain ⟨r, hr⟩ : ∃ r, rs'[k]? = some r := ⟨_, List.getElem?_eq_getElem (by omega)⟩
        have hgood := hM.old k r (Nat.le_refl _) hr
        have wk : wrap64 ((k : Int) + 1) = k + 1 := by unfold wrap64; omega
        have hxL : r.x.f1.length * 40 ≤ 140737488355328 := hrowL _ (by
          rw [← hM.vers]; exact List.mem_map.2 ⟨r, List.mem_of_getElem? hr, rfl⟩)
        have hq : wr.cell? ⟨g, k * 4 + 2, none⟩ = some (.slice r.A r.x.f1.length r.c) := by
          have h1 := hM.own.cells (g := g) rfl (k * 4 + 2) (.slice r.A r.x.f1.length r.c) (by
            rw [flat_at rs' k (by omega) 2 (by omega)]
            rw [List.getElem?_eq_getElem (by omega)] at hr
            rw [Option.some.inj hr]; rfl)
          rwa [add_plain] at h1
        obtain ⟨cur, hcur⟩ := own_typed hM.own g rfl
        have hgood' := hgood.below hBr
        go_wp2_with (first
          | (go_at_call 41; refine (clone_any r.A r.x.f1 r.c _ hgood'.2 hgood'.1 hxL).mono ?_; rintro e w3 ⟨v3, rfl, hR3, hB3⟩; obtain ⟨A3, c3, rfl⟩ := Kd.R_slice hR3; have hq3 := pw_cell_below hB3 hq; have hf3 : w3.frozen? ⟨g, k * 4 + 2, none⟩ = false := blk_frozen (blk_below hcur hB3) _)
          | go_in)
        go_roundw
        case rel =>
          obtain ⟨m', rs2, hM2⟩ := hM.step hlt hr hB3 hR3
          have hgw : w.heap.size ≤ g := own_base hM.own g rfl
          exact ⟨k + 1, m', rs2, by omega, by go_num, hM2, (btr' hBr hB3).setCell hgw _⟩
        case measure => simp [intOf]; omega
      · obtain rfl : k = rs.length := by omega
        have hO : OwnV w wr (.slice (some ⟨g, 0, none⟩) rs.length c0) L := by
          refine .inr ⟨by rw [hM.len]; exact h0, g, c0, m, rs', by rw [hM.len], ?_⟩
          have hM' := hM
          rw [← hM.len] at hM'
          exact hM'
        go_wp2
        go_ret
        exact ⟨_, rfl, L, hT, hLl, hO, hBr⟩
end Go.Proofs.Ytfepfpcilmaojaa.QV
/- maps.DeleteFunc of a map of versions; recover.Upto. -/
namespace Go.Proofs.Ytfepfpcilmaojaa.QV
open Go.RowKit Go.Proofs.YtfepfpcilmaojaaW.PrintWords Go.Proofs.Ytfepfpcilmaojaa.Seq Go.Proofs.Ytfepfpcilmaojaa.Mp Go.Shelf
set_option linter.unusedVariables false
set_option linter.unusedSimpArgs false
set_option maxRecDepth 100000
/-- What stays: all that is still to come, and of the others what the function says no to. -/
def keepF (pd : Nm → Value → Bool) (f : Nm → Option Value) (todo : Nm → Bool) (a : Nm) : Option Value := if todo a = true then f a else (f a).filter (fun v => !pd a v)

set_option maxHeartbeats 4000000 in
theorem deleteFunc_any (b n : Nat) (f : Nm → Option Value) (F : Nm → Option Ver) (pd : Nm → Value → Bool) (g : Nat) (cb : Array Value) (w : World) (eg : ∀ args w, (callFunc g args).run Try.prog w = .ok (.enter g args) w) (hm : MapIs nmK w b n f) (hF : FIs w f F)
    (hdel : ∀ (W : World) (a : Nm) (x : Ver) (A : Option Addr) (c : Nat), w.grownBy W (some b) → Nok a → F a = some x → f a = some (.agg #[.int .u64 x.f0.f0, .int .u32 x.f0.f1, .slice A x.f1.length c, .int .u64 x.f2]) →
      Calls Try.prog g (#[.agg #[.int .u64 a.f0, .int .u32 a.f1], .agg #[.int .u64 x.f0.f0, .int .u32 x.f0.f1, .slice A x.f1.length c, .int .u64 x.f2]] ++ cb) W fun e w' => e = .returned (.bool (pd a (.agg #[.int .u64 x.f0.f0, .int .u32 x.f0.f1, .slice A x.f1.length c, .int .u64 x.f2]))) ∧ W.grownBy w' none) :
    Calls Try.prog 26 #[.map (some b), .func (.func g) #[] cb] w fun e w' => e = .returned (.tuple #[]) ∧ MapIs nmK w' b n (fun a => (f a).filter (fun v => !pd a v)) ∧ w.grownBy w' (some b) := by
  have HD := Lib.hid hdel
  clear hdel
  go_enter Try.func26, Try.ntmps26
  go_wp2_with (first
    | (at_range; refine wpList_range_map _ rfl _ tMap rfl tVer Try.underlying52 rfl hm ?_; intro w0 cnt0 hrg0 hc0 hg0 hs0)
    | go_in)
  go_frame
  go_loopw [8] (fun _ wr => ∃ (todo : Nm → Bool) (cnt : Nat), RangeIs nmK wr b w.heap.size n (keepF pd f todo) todo cnt ∧ w.grownBy wr (some b))
    (fun _ wr => wr.rangeLeft b w.heap.size)
  case atStart =>
    refine ⟨_, cnt0, hrg0.congr (fun a ha => ?_), hg0.but _⟩
    unfold keepF
    cases hf : f a <;> simp [hf]
  case round =>
    obtain ⟨todo, cnt, hrg, hgw⟩ := hrel
    go_wp2_with (first
      | (at_next; refine wpList_next_map _ rfl _ rfl rfl hrg ?_ ?_)
      | go_in)
    · intro _ hl0
      go_wp2
      go_end0
      refine ⟨rfl, (hrg.map).congr (fun a ha => ?_), hgw⟩
      simp [keepF, hl0 a ha]
    · intro a v w1 cnt1 hak htd hfv hrg1 hlt hg1 hs1 hen
      rw [nmK_val] at hen
      have hfa : f a = some v := by simpa [keepF, htd] using hfv
      obtain ⟨x, hFx, A, c, rfl, hlx, hCx⟩ := hF.get hak hfa
      have hgw1 := hgw.andThen hg1 (fun j hj => by cases hj; exact Or.inl (Nat.le_refl _))
      have hbl := hrg1.map.lt
      have hrl := hrg1.lt
      cases hp : pd a (.agg #[.int .u64 x.f0.f0, .int .u32 x.f0.f1, .slice A x.f1.length c, .int .u64 x.f2])
      · go_wp2_with (first
          | (go_at_fn g; refine (HD.out _ a x A c (hgw1.andThen (grown_of_below (by repeat (first | exact Below.refl _ _ | apply below_alloc)) none) (fun j hj => by cases hj)) hak hFx hfa).mono ?_; rintro e w2 ⟨he, hg2⟩; rw [hp] at he; subst he; have hg12 : w1.grownBy w2 none := World.grownBy.andThen (grown_of_below (by repeat (first | exact Below.refl _ _ | apply below_alloc)) none) hg2 (fun j hj => by cases hj))
          | go_in)
        have hrg2 := hrg1.kept hg12 (by simp) (by simp)
        go_roundw
        case rel =>
          refine ⟨_, cnt1, hrg2.congr (fun z hz => ?_), hgw1.andThen hg12 (fun j hj => by cases hj)⟩
          unfold keepF
          by_cases e : z = a
          · subst e; simp [htd, hfa, hp, Option.filter]
          · simp [e]
        case measure => rw [hrg2.left_eq, hrg.left_eq]; exact hlt
      · go_wp2_with (first
          | (go_at_fn g; refine (HD.out _ a x A c (hgw1.andThen (grown_of_below (by repeat (first | exact Below.refl _ _ | apply below_alloc)) none) (fun j hj => by cases hj)) hak hFx hfa).mono ?_; rintro e w2 ⟨he, hg2⟩; rw [hp] at he; subst he; have hg12 : w1.grownBy w2 none := World.grownBy.andThen (grown_of_below (by repeat (first | exact Below.refl _ _ | apply below_alloc)) none) hg2 (fun j hj => by cases hj); have hrg2 := hrg1.kept hg12 (by simp) (by simp); have hkb := blk_grown (blk_alloc (blk_new w1 (.cells #[.int .u64 a.f0, .int .u32 a.f1] tNm)) _) hg2 (by simp); rw [hs1] at hkb; have hk0 := blk_cell hkb 0; have hk1 := blk_cell hkb 1)
          | (at_delete; refine wpList_drop_range _ rfl _ _ tMap rfl tVer Try.underlying52 rfl hrg2 a hak rfl ?_; intro w3 cnt3 hrg3 hle hturn; go_frame)
          | go_in)
        go_roundw
        case rel =>
          refine ⟨_, cnt3, (hrg3.congr (fun z hz => ?_)), (hgw1.andThen hg12 (fun j hj => by cases hj)).andThen hturn.grown (fun j hj => by cases hj; exact Or.inr rfl)⟩
          unfold upd keepF
          by_cases e : z = a
          · subst e; simp [htd, hfa, hp, Option.filter]
          · simp [e]
        case measure => rw [hrg3.left_eq, hrg.left_eq]; omega

theorem once_any (A : Option Addr) (l : List Ver) (c : Nat) (w0 w : World) (hb0 : Below w0.heap.size w0 w) (hr : kVer.C w0 A l.length l) (hc : l.length ≤ c) (hok : ∀ x ∈ l, Nok x.f0) (hb : l.length < 9223372036854775807) :
    Calls Try.prog 25 #[.slice A l.length c] w fun e w' => e = .returned (.map (some w.heap.size)) ∧ (∃ f, MapIs nmK w' w.heap.size l.length f ∧ FIs w0 f (firstOf l)) ∧ Below w.heap.size w w' := by
  go_enter Try.func25, Try.ntmps25
  go_wp2_with (first
    | (go_at_call 37; refine (keyed_any A l c w0 _ hb0 hr hc hok hb).mono ?_; rintro e w1 ⟨rfl, hM, hB⟩)
    | go_in)
  go_ret
  exact ⟨rfl, hM, hB⟩
/-- A version as it was told at an epoch. -/
def asOf (ep : Int) (x : Ver) : Ver := if ep < x.f2 then ⟨x.f0, x.f1, 0⟩ else x
theorem asOf_f0 (ep : Int) (x : Ver) : (asOf ep x).f0 = x.f0 := by unfold asOf; split <;> rfl
theorem asOf_f1 (ep : Int) (x : Ver) : (asOf ep x).f1 = x.f1 := by unfold asOf; split <;> rfl
/-- What there was up to an epoch. -/
def uptoF (l : List Ver) (ep : Int) (k : Nm) : Option Ver := if ep < k.f0 then none else (firstOf l k).map (asOf ep)
theorem firstOf_f0 (l : List Ver) (k : Nm) (x : Ver) (h : firstOf l k = some x) : x.f0 = k := by
  have := List.find?_some h
  simpa using this
theorem firstOf_mem (l : List Ver) (k : Nm) (x : Ver) (h : firstOf l k = some x) : x ∈ l := List.mem_of_find?_eq_some h
theorem upto1_any (a : Nm) (u : Value) (x : Ver) (hu : ∃ A c, u = .agg #[.int .u64 x.f0.f0, .int .u32 x.f0.f1, .slice A x.f1.length c, .int .u64 x.f2]) (eb : Nat) (ep : Int) (W : World) (hc : W.cell? ⟨eb, 0, none⟩ = some (.int .u64 ep)) :
    Calls Try.prog 27 #[.agg #[.int .u64 a.f0, .int .u32 a.f1], u, .pointer (some ⟨eb, 0, none⟩)] W fun e w' => e = .returned (.bool (decide (ep < a.f0))) ∧ W.grownBy w' none := by
  obtain ⟨A, c, rfl⟩ := hu
  have hlt : eb < W.heap.size := World.block_lt_of_cell? W _ hc
  go_enter Try.func27, Try.ntmps27
  go_wp2
  go_ret
  exact ⟨by simp, grown_of_below (by repeat (first | exact Below.refl _ _ | apply below_alloc)) none⟩

set_option maxHeartbeats 4000000 in
theorem upto_any (A : Option Addr) (l : List Ver) (c : Nat) (ep : Int) (w : World) (hr : kVer.C w A l.length l) (hc : l.length ≤ c) (hok : ∀ x ∈ l, Nok x.f0) (hb : l.length * 48 ≤ 140737488355328) (hrow : ∀ x ∈ l, x.f1.length * 40 ≤ 140737488355328) :
    Calls Try.prog 11 #[.slice A l.length c, .int .u64 ep] w fun e w' => ∃ v L wb, e = .returned v ∧ IsTold (uptoF l ep) L ∧ L.length ≤ l.length ∧ Below w.heap.size w wb ∧ OwnV wb w' v L ∧ Below w.heap.size w w' := by
  go_enter Try.func11, Try.ntmps11
  go_wp2_with (first
    | (go_at_call 25; refine (once_any A l c _ _ (Below.refl _ _) (Kd.C_below hr (by repeat (first | exact Below.refl _ _ | apply below_alloc))) hc hok (by omega)).mono ?_; rintro e w1 ⟨rfl, ⟨f1, hM1, hF1⟩, hB1⟩; rw [World.size_alloc] at hM1; have hep1 := blk_below (blk_new w (.cells #[.int .u64 ep] 23)) hB1; have hB01 := btr' (below_alloc (Below.refl w.heap.size w) (.cells #[.int .u64 ep] 23)) hB1)
    | (at_range; refine wpList_range_map _ rfl _ tMap rfl tVer Try.underlying52 rfl hM1 ?_; intro w2 cnt2 hrg2 hc2 hg2 hs2)
    | go_in)
  go_frame
  obtain ⟨W0, hW0⟩ : ∃ W0, w.alloc (.cells #[.int .u64 ep] 23) = W0 := ⟨_, rfl⟩
  have hs0 : W0.heap.size = w.heap.size + 1 := by rw [← hW0]; simp
  have hBw : Below w.heap.size w W0 := by rw [← hW0]; exact below_alloc (Below.refl _ _) _
  rw [hW0] at hF1 hB1
  have hB2 : Below W0.heap.size W0 w2 := hB1.grown hg2 hB1.size (fun k e => by cases e)
  have hep2 : w2.heap[w.heap.size]? = some (.cells #[.int .u64 ep] 23 (0, 0)) := blk_grown hep1 hg2 (by simp)
  go_loopw [12] (fun _ wr => ∃ (todo : Nm → Bool) (cnt : Nat) (f : Nm → Option Value), RangeIs nmK wr (w.heap.size + 1) w1.heap.size l.length f todo cnt ∧ FIs W0 f (fun k => if todo k = true then firstOf l k else (firstOf l k).map (asOf ep)) ∧ Below W0.heap.size W0 wr ∧ wr.heap[w.heap.size]? = some (.cells #[.int .u64 ep] 23 (0, 0)))
    (fun _ wr => wr.rangeLeft (w.heap.size + 1) w1.heap.size)
  case atStart =>
    refine ⟨_, cnt2, f1, hrg2, hF1.congr (fun k hk => ?_), hB2, hep2⟩
    rcases hF1 k hk with ⟨h1, h2⟩ | ⟨u, x, h1, h2, _⟩ <;> simp [h1, h2]
  case round =>
    obtain ⟨todo, cnt, f, hrg, hF, hBr, hep⟩ := hrel
    have hce : wr.cell? ⟨w.heap.size, 0, none⟩ = some (.int .u64 ep) := blk_cell hep 0
    go_wp2_with (first
      | (at_next; refine wpList_next_map _ rfl _ rfl rfl hrg ?_ ?_)
      | go_in)
    · intro _ hl0
      have hF2 : FIs W0 f (fun k => (firstOf l k).map (asOf ep)) := hF.congr (fun k hk => by simp [hl0 k hk])
      have hm2 := hrg.map
      have hdel : ∀ (W : World) (a : Nm) (x : Ver) (A : Option Addr) (c : Nat), wr.grownBy W (some (w.heap.size + 1)) → Nok a → (firstOf l a).map (asOf ep) = some x → f a = some (.agg #[.int .u64 x.f0.f0, .int .u32 x.f0.f1, .slice A x.f1.length c, .int .u64 x.f2]) →
          Calls Try.prog 27 (#[.agg #[.int .u64 a.f0, .int .u32 a.f1], .agg #[.int .u64 x.f0.f0, .int .u32 x.f0.f1, .slice A x.f1.length c, .int .u64 x.f2]] ++ #[.pointer (some ⟨w.heap.size, 0, none⟩)]) W fun e w' => e = .returned (.bool (decide (ep < a.f0))) ∧ W.grownBy w' none :=
        fun W a x A c hg _ _ _ => upto1_any a _ x ⟨A, c, rfl⟩ w.heap.size ep W (blk_cell (blk_grown hep hg (by intro e; injection e with e; omega)) 0)
      have hFt : ∀ k, Nok k → ((f k).filter (fun _ => !decide (ep < k.f0)) = none ∧ uptoF l ep k = none) ∨ ((f k).filter (fun _ => !decide (ep < k.f0)) = f k ∧ uptoF l ep k = (firstOf l k).map (asOf ep)) := fun k hk => by
        by_cases e : ep < k.f0
        · left; constructor
          · cases f k <;> simp [e, Option.filter]
          · simp [uptoF, e]
        · right; constructor
          · cases f k <;> simp [e, Option.filter]
          · simp [uptoF, e]
      have hF3 : FIs W0 (fun k => (f k).filter (fun _ => !decide (ep < k.f0))) (uptoF l ep) := fun k hk => by
        rcases hFt k hk with ⟨h1, h2⟩ | ⟨h1, h2⟩
        · exact .inl ⟨h2, h1⟩
        · show (uptoF l ep k = none ∧ (f k).filter _ = none) ∨ ∃ u x, (f k).filter _ = some u ∧ uptoF l ep k = some x ∧ VerAt W0 u x
          rw [h1, h2]; exact hF2 k hk
      go_wp2_with (first
        | (go_at_call 26; refine (deleteFunc_any (w.heap.size + 1) l.length f (fun k => (firstOf l k).map (asOf ep)) (fun a _ => decide (ep < a.f0)) 27 _ _ (fun args w => by kernel_rfl) hm2 (hF2.below hBr) hdel).mono ?_; rintro e w5 ⟨rfl, hm5, hg5⟩; have hB5 : Below W0.heap.size W0 w5 := hBr.grown hg5 hBr.size (fun k e => by cases e; omega))
        | (go_at_call 28; refine (told_any (w.heap.size + 1) l.length (uptoF l ep) _ _ hm5 (hF3.below hB5) ?_ hb ?_).mono ?_)
        | go_in)
      · intro k x hk
        unfold uptoF at hk
        split at hk
        · cases hk
        · obtain ⟨y, hy, rfl⟩ := Option.map_eq_some_iff.1 hk
          rw [asOf_f0]; exact firstOf_f0 l k y hy
      · intro k x hk
        unfold uptoF at hk
        split at hk
        · cases hk
        · obtain ⟨y, hy, rfl⟩ := Option.map_eq_some_iff.1 hk
          rw [asOf_f1]; exact hrow _ (firstOf_mem l k y hy)
      · rintro e w6 ⟨v, L, rfl, hT, hLl, hS, hB6⟩
        have hBw5 : Below w.heap.size w w5 := btr' hBw hB5
        go_wp2
        go_ret
        exact ⟨v, L, w5, rfl, hT, hLl, hBw5, hS, btr' hBw5 hB6⟩
    · intro a v w3 cnt3 hak htd hfv hrg3 hlt hg3 hs3 hen
      rw [nmK_val] at hen
      obtain ⟨x, hFx, Ax, cx, rfl, hlx, hCx⟩ := hF.get hak hfv
      have hFx' : firstOf l a = some x := by simpa [htd] using hFx
      have hep3 := blk_grown hep hg3 (by have := blk_lt hep1; intro e; injection e with e; omega)
      have hce3 : w3.cell? ⟨w.heap.size, 0, none⟩ = some (.int .u64 ep) := blk_cell hep3 0
      have hB3 : Below W0.heap.size W0 w3 := hBr.grown hg3 hBr.size (fun k e => by cases e; exact hB1.size)
      have hmw := hrg3.map.lt
      have hk3 := hrg3.lt
      have hBx : Below w3.heap.size w3 ((w3.alloc (.cells #[.int .u64 a.f0, .int .u32 a.f1] tNm)).alloc (.cells #[.int .u64 x.f0.f0, .int .u32 x.f0.f1, .slice Ax x.f1.length cx, .int .u64 x.f2] tVer)) := by repeat (first | exact Below.refl _ _ | apply below_alloc)
      have hce4 := pw_cell_below hBx hce3
      cases hgt : decide (ep < x.f2)
      · go_wp2
        have hrg4 := hrg3.at (hBx.block _ hmw) (hBx.block _ hk3)
        go_roundw
        case rel =>
          refine ⟨_, cnt3, f, hrg4, hF.congr (fun z hz => ?_), btr' hB3 hBx, blk_below hep3 hBx⟩
          by_cases e : z = a
          · subst e
            have : asOf ep x = x := by unfold asOf; rw [if_neg (by simpa using hgt)]
            simp [htd, hFx', this]
          · simp [e]
        case measure => rw [hrg4.left_eq, hrg.left_eq]; exact hlt
      · have hB5 : Below w3.heap.size w3 ((w3.alloc (.cells #[.int .u64 a.f0, .int .u32 a.f1] tNm)).alloc (.cells #[.int .u64 x.f0.f0, .int .u32 x.f0.f1, .slice Ax x.f1.length cx, .int .u64 0] tVer)) := by repeat (first | exact Below.refl _ _ | apply below_alloc)
        have hrg4 := hrg3.at (hB5.block _ hmw) (hB5.block _ hk3)
        have hep5 := blk_below hep3 hB5
        go_wp2_with (first
          | (at_mapUpdate; refine wpList_put_range _ rfl _ _ _ tMap rfl tVer Try.underlying52 rfl hrg4 (by unfold maxLen; omega) a hak (by rw [hfv]; rfl) rfl (.agg #[.int .u64 x.f0.f0, .int .u32 x.f0.f1, .slice Ax x.f1.length cx, .int .u64 0]) rfl ?_; intro w5 hrg5 hturn5; go_frame)
          | go_in)
        go_roundw
        case rel =>
          refine ⟨_, cnt3, _, hrg5, (hF.upd_ a (x := ⟨x.f0, x.f1, 0⟩) ⟨Ax, cx, rfl, hlx, hCx⟩).congr (fun z hz => ?_), (btr' hB3 hB5).grown hturn5.grown (btr' hB3 hB5).size (fun k e => by cases e; omega), blk_grown hep5 hturn5.grown (by intro e; injection e with e; omega)⟩
          unfold updV
          by_cases e : z = a
          · subst e
            have : asOf ep x = ⟨x.f0, x.f1, 0⟩ := by unfold asOf; rw [if_pos (by simpa using hgt)]
            simp [hFx', this]
          · simp [e]
        case measure => rw [hrg5.left_eq, hrg.left_eq]; exact hlt
end Go.Proofs.Ytfepfpcilmaojaa.QV
/- slices.IndexFunc, slices.DeleteFunc of a row of versions of one's own. -/
namespace Go.Proofs.Ytfepfpcilmaojaa.QV
open Go.RowKit Go.Proofs.YtfepfpcilmaojaaW.PrintWords Go.Proofs.Ytfepfpcilmaojaa.Seq Go.Proofs.Ytfepfpcilmaojaa.Mp Go.Shelf
set_option linter.unusedVariables false
set_option linter.unusedSimpArgs false
set_option maxRecDepth 100000
/-- The elements' blocks lie apart (element q's between m q.2 and m (q.2 + 1)): the row as the print has it. -/
theorem S_parts {w W : World} {base g cap : Nat} {m : Nat → Nat} {zs : List (RawV × Nat)} (hmono : ∀ j, m j ≤ m (j + 1)) (hlow : ∀ j, g < m j)
    (own : W.ownsRow base tVer 4 (.slice (some ⟨g, 0, none⟩) zs.length cap) zs.length ((zs.map Prod.fst).flatMap RawV.cells)) (hz : zs.Pairwise (fun p q => p.2 < q.2))
    (hR : ∀ q ∈ zs, kS.R tS W base (fun b => m q.2 ≤ b ∧ b < m (q.2 + 1)) (.slice q.1.A q.1.x.f1.length q.1.c) q.1.x.f1) :
    Kd.S kVer tVer W base (fun _ => True) (.slice (some ⟨g, 0, none⟩) zs.length cap) (zs.map (·.1.x)) := by
  have hlm : (zs.map (·.1.x)).length = zs.length := List.length_map ..
  obtain ⟨f, hf⟩ := Kd.reps_tag (d := kVer) (w := W) (base := base) (ok := fun k => True ∧ some k ≠ (Value.slice (some ⟨g, 0, none⟩) zs.length cap).ownBlock) (xs := zs.map (·.1.x)) (inner := (zs.map Prod.fst).flatMap RawV.cells) (fun i b => ∃ q, zs[i]? = some q ∧ m q.2 ≤ b ∧ b < m (q.2 + 1))
    (fun i j b ⟨p, hp, hp1, hp2⟩ ⟨q, hq, hq1, hq2⟩ => by
      have hi := (List.getElem?_eq_some_iff.1 hp)
      have hj := (List.getElem?_eq_some_iff.1 hq)
      rcases Nat.lt_trichotomy i j with e | e | e
      · have := List.pairwise_iff_getElem.1 hz i j hi.1 hj.1 e
        rw [hi.2, hj.2] at this
        have := mono_le hmono (show p.2 + 1 ≤ q.2 by omega); omega
      · exact e
      · have := List.pairwise_iff_getElem.1 hz j i hj.1 hi.1 e
        rw [hi.2, hj.2] at this
        have := mono_le hmono (show q.2 + 1 ≤ p.2 by omega); omega)
    (fun j b ⟨q, _, hb, _⟩ => ⟨trivial, by have := hlow q.2; simp [Value.ownBlock]; omega⟩) (by rw [hlm]; exact own.1) (fun j x hx => by
      have hj : j < zs.length := by rw [← hlm]; exact (List.getElem?_eq_some_iff.1 hx).1
      obtain ⟨q, hq⟩ : ∃ q, zs[j]? = some q := ⟨_, List.getElem?_eq_getElem hj⟩
      have hqx : q.1.x = x := by rw [List.getElem?_map, hq] at hx; exact Option.some.inj hx
      have hjm : j < (zs.map Prod.fst).length := by simpa using hj
      have hcells : (((zs.map Prod.fst).flatMap RawV.cells).drop (j * 4)).take 4 = q.1.cells := by
        apply List.ext_getElem?
        intro t
        by_cases ht : t < 4
        · rw [List.getElem?_take_of_lt ht, List.getElem?_drop, flat_at _ j hjm t ht, List.getElem_map]
          rw [List.getElem?_eq_getElem hj] at hq
          rw [Option.some.inj hq]
        · rw [List.getElem?_take_eq_none (by omega), List.getElem?_eq_none (by rw [cells_len]; omega)]
      rw [show kVer.sz = 4 from rfl, hcells, ← hqx]
      exact k34_mkM _ _ _ _ (Kd.R_mono (hR q (List.mem_of_getElem? hq)) (fun b hb => ⟨q, hq, hb⟩)))
  refine ⟨f, fun k hk => trivial, (zs.map Prod.fst).flatMap RawV.cells, ?_, hf⟩
  rwa [List.length_zipIdx, hlm]
/-- The cells of the i-th version of a row of one's own. -/
theorem own_ver {w : World} {base g n cap : Nat} {cs : List RawV} (h : w.ownsRow base tVer 4 (.slice (some ⟨g, 0, none⟩) n cap) n (cs.flatMap RawV.cells)) (i : Nat) (hi : i < cs.length) (r : RawV) (hr : cs[i]? = some r) :
    w.cell? ⟨g, i * 4, none⟩ = some (.int .u64 r.x.f0.f0) ∧ w.cell? ⟨g, i * 4 + 1, none⟩ = some (.int .u32 r.x.f0.f1) ∧ w.cell? ⟨g, i * 4 + 2, none⟩ = some (.slice r.A r.x.f1.length r.c) ∧ w.cell? ⟨g, i * 4 + 3, none⟩ = some (.int .u64 r.x.f2) := by
  have hk : ∀ j u, j < 4 → r.cells[j]? = some u → w.cell? ⟨g, i * 4 + j, none⟩ = some u := fun j u hj hu => by
    have h1 := h.cells (g := g) rfl (i * 4 + j) u (by
      rw [flat_at cs i hi j hj]
      rw [List.getElem?_eq_getElem hi] at hr
      rw [Option.some.inj hr]; exact hu)
    rwa [add_plain] at h1
  exact ⟨hk 0 _ (by omega) rfl, hk 1 _ (by omega) rfl, hk 2 _ (by omega) rfl, hk 3 _ (by omega) rfl⟩
theorem own_frz {w : World} {base g n cap sz : Nat} {e : TypeId} {cs : List Value} (h : w.ownsRow base e sz (.slice (some ⟨g, 0, none⟩) n cap) n cs) (j : Nat) : w.frozen? ⟨g, j, none⟩ = false := by
  obtain ⟨cur, hc⟩ := own_typed h g rfl
  exact blk_frozen hc j
theorem flat_len (cs : List RawV) : (cs.flatMap RawV.cells).length = cs.length * 4 := by
  induction cs with
  | nil => rfl
  | cons r cs ih => rw [List.flatMap_cons, List.length_append, ih, cells_len]; simp; omega
theorem flat_set4 (cs : List RawV) (i : Nat) (r : RawV) (h : i < cs.length) :
    ((((cs.flatMap RawV.cells).set (i * 4) (.int .u64 r.x.f0.f0)).set (i * 4 + 1) (.int .u32 r.x.f0.f1)).set (i * 4 + 2) (.slice r.A r.x.f1.length r.c)).set (i * 4 + 3) (.int .u64 r.x.f2) = (cs.set i r).flatMap RawV.cells := by
  induction cs generalizing i with
  | nil => simp at h
  | cons q cs ih =>
    cases i with
    | zero => simp [RawV.cells, List.flatMap_cons]
    | succ i =>
      have e : ∀ j, (i + 1) * 4 + j = (i * 4 + j) + 4 := fun j => by omega
      have e0 : (i + 1) * 4 = i * 4 + 4 := by omega
      rw [List.set_cons_succ, List.flatMap_cons, List.flatMap_cons, ← ih i (by simpa using h)]
      rw [e, e, e, e0]
      simp [RawV.cells]

/-- Where the first one stands that is said yes to; -1: none. -/
def idxI (pd : RawV → Bool) (rs : List RawV) : Int := match rs.findIdx? pd with | none => -1 | some i => i
theorem idxI_some {pd : RawV → Bool} {rs : List RawV} {i : Nat} (h : rs.findIdx? pd = some i) : idxI pd rs = i := by unfold idxI; rw [h]
theorem idxI_none {pd : RawV → Bool} {rs : List RawV} (h : rs.findIdx? pd = none) : idxI pd rs = -1 := by unfold idxI; rw [h]
theorem wrap_succ (k : Nat) (h : k < 9223372036854775807) : wrap64 ((k : Int) + 1) = k + 1 := by unfold wrap64; omega
theorem own_form {w : World} {base g n cap sz : Nat} {e : TypeId} {cs : List Value} (h : w.ownsRow base e sz (.slice (some ⟨g, 0, none⟩) n cap) n cs) : ∃ cur, w.heap[g]? = some (.cells cur e (0, 0)) ∧ n ≤ cap ∧ cap ≤ maxLen ∧ cur.size = cap * sz ∧ cur.toList.take (n * sz) = cs ∧ base ≤ g := by
  rcases h.2 with ⟨hv, _⟩ | ⟨g', cap', cur', hv, hb, hh, h1, h2, h3, h4⟩
  · cases hv
  · injection hv with e1 e2 e3
    injection e1 with e1
    injection e1 with e1
    subst e1; subst e3
    exact ⟨cur', hh, h1, h2, h3, h4, hb⟩
set_option maxHeartbeats 2000000 in
theorem indexFunc_any (g0 : Nat) (cb : Array Value) (base g cap : Nat) (rs : List RawV) (pd : RawV → Bool) (w : World) (eg : ∀ args w, (callFunc g0 args).run Try.prog w = .ok (.enter g0 args) w)
    (ho : w.ownsRow base tVer 4 (.slice (some ⟨g, 0, none⟩) rs.length cap) rs.length (rs.flatMap RawV.cells)) (hmax : rs.length ≤ 2932031007402)
    (hpd : ∀ W r, r ∈ rs → w.grownBy W (some g) → Calls Try.prog g0 (#[.agg #[.int .u64 r.x.f0.f0, .int .u32 r.x.f0.f1, .slice r.A r.x.f1.length r.c, .int .u64 r.x.f2]] ++ cb) W fun e w' => e = .returned (.bool (pd r)) ∧ W.grownBy w' none) :
    Calls Try.prog 42 #[.slice (some ⟨g, 0, none⟩) rs.length cap, .func (.func g0) #[] cb] w fun e w' => e = .returned (.int .i64 (idxI pd rs)) ∧ w.grownBy w' none := by
  have HD := Lib.hid hpd
  clear hpd
  have hlt0 : g < w.heap.size := own_lt ho g rfl
  go_enter Try.func42, Try.ntmps42
  go_wp2
  go_loopw [8] (fun i wr => ∃ k : Nat, k ≤ rs.length ∧ i = .int .i64 k ∧ w.grownBy wr none ∧ ∀ j r, j < k → rs[j]? = some r → pd r = false)
    (fun i _ => rs.length - (intOf i).toNat)
  case atStart => exact ⟨0, Nat.zero_le _, rfl, ⟨rfl, rfl, rfl, Nat.le_refl _, fun _ _ _ => rfl⟩, fun j r h => absurd h (by omega)⟩
  case round =>
    obtain ⟨k, hk, rfl, hg, hno⟩ := hrel
    by_cases hlt : k < rs.length
    · obtain ⟨r, hr⟩ : ∃ r, rs[k]? = some r := ⟨_, List.getElem?_eq_getElem hlt⟩
      obtain ⟨q0, q1, q2, q3⟩ := own_ver (own_move ho (w1 := wr) (fun j hj => hg.block j (own_lt ho j hj) (by simp))) k hlt r hr
      have wk : wrap64 ((k : Int) + 1) = k + 1 := by unfold wrap64; omega
      have hmem := List.mem_of_getElem? hr
      cases hp : pd r
      · go_wp2_with (first
          | (go_at_fn g0; refine (HD.out _ r hmem (hg.but _)).mono ?_; rintro e w2 ⟨he, hg2⟩; rw [hp] at he; subst he)
          | go_in)
        go_roundw
        case rel =>
          refine ⟨k + 1, by omega, by go_num, hg.andThen hg2 (fun j hj => by cases hj), fun j q hj hq => ?_⟩
          by_cases e : j = k
          · subst e; rw [hr] at hq; cases hq; exact hp
          · exact hno j q (by omega) hq
        case measure => simp [intOf]; omega
      · go_wp2_with (first
          | (go_at_fn g0; refine (HD.out _ r hmem (hg.but _)).mono ?_; rintro e w2 ⟨he, hg2⟩; rw [hp] at he; subst he)
          | go_in)
        go_ret
        have hix : rs.findIdx? pd = some k := by
          rw [List.findIdx?_eq_some_iff_getElem]
          refine ⟨hlt, ?_, fun j hj => ?_⟩
          · rw [List.getElem?_eq_getElem hlt] at hr; rw [Option.some.inj hr]; exact hp
          · have := hno j (rs[j]) hj (List.getElem?_eq_getElem (by omega)); simp [this]
        exact ⟨by first | rw [idxI_some hix]; rfl | rw [idxI_none hix]; rfl, hg.andThen hg2 (fun j hj => by cases hj)⟩
    · obtain rfl : k = rs.length := by omega
      go_wp2
      go_ret
      have hix : rs.findIdx? pd = none := by
        rw [List.findIdx?_eq_none_iff]
        intro r hr
        obtain ⟨j, hj, e⟩ := List.getElem_of_mem hr
        exact hno j r hj (by rw [List.getElem?_eq_getElem hj, e])
      exact ⟨by first | rw [idxI_some hix]; rfl | rw [idxI_none hix]; rfl, hg⟩

theorem own_set4 {W : World} {base g n cap : Nat} {cs : List RawV} (h : W.ownsRow base tVer 4 (.slice (some ⟨g, 0, none⟩) n cap) n (cs.flatMap RawV.cells)) (i : Nat) (hi : i < cs.length) (r : RawV) :
    ((((W.setCell ⟨g, i * 4, none⟩ (.int .u64 r.x.f0.f0)).setCell ⟨g, i * 4 + 1, none⟩ (.int .u32 r.x.f0.f1)).setCell ⟨g, i * 4 + 2, none⟩ (.slice r.A r.x.f1.length r.c)).setCell ⟨g, i * 4 + 3, none⟩ (.int .u64 r.x.f2)).ownsRow base tVer 4 (.slice (some ⟨g, 0, none⟩) n cap) n ((cs.set i r).flatMap RawV.cells) := by
  have hl := flat_len cs
  rw [← flat_set4 cs i r hi]
  exact own_set (own_set (own_set (own_set h (by omega) _) (by rw [List.length_set]; omega) _) (by rw [List.length_set, List.length_set]; omega) _) (by rw [List.length_set, List.length_set, List.length_set]; omega) _
theorem setCells_block : ∀ (vs : List Value) (w : World) (g o : Nat) (cur : Array Value) (e : TypeId), w.heap[g]? = some (.cells cur e (0, 0)) → ∃ cur', (w.setCells g o vs).heap[g]? = some (.cells cur' e (0, 0)) ∧ cur'.size = cur.size ∧ (∀ j, j < o → cur'[j]? = cur[j]?) ∧ w.grownBy (w.setCells g o vs) (some g)
  | [], w, g, o, cur, e, h => ⟨cur, h, rfl, fun _ _ => rfl, ⟨rfl, rfl, rfl, Nat.le_refl _, fun _ _ _ => rfl⟩⟩
  | v :: vs, w, g, o, cur, e, h => by
    obtain ⟨cur', h1, h2, h3, h4⟩ := setCells_block vs (w.setCell ⟨g, o, none⟩ v) g (o + 1) _ e (blk_set h o v)
    refine ⟨cur', h1, by rw [h2]; simp, fun j hj => ?_, ?_⟩
    · rw [h3 j (by omega)]
      rw [Array.getElem?_setIfInBounds]
      rw [if_neg (by omega)]
    · exact World.grownBy.andThen (b' := w.setCell ⟨g, o, none⟩ v) ⟨rfl, rfl, rfl, by simp, fun k hk hn => Below.heap_setCell _ _ _ _ (fun e => hn (by rw [e]))⟩ h4 (fun j hj => .inr hj)
theorem zeroCells_len (z : Value) (n : Nat) (hz : z.cells.size = 4) : (Builtin.zeroCells z.cells n).size = n * 4 := by
  simp [Builtin.zeroCells, hz]
theorem run_clear_ver (w : World) (g o n c : Nat) (hn : 0 < n) (hc : ∀ j, j < n * 4 → (w.cell? ⟨g, o + j, none⟩).isSome = true) (hf : ∀ j, j < n * 4 → w.frozen? ⟨g, o + j, none⟩ = false) :
    ∃ zs : List Value, ∀ ty, (Builtin.clear_ #[22] ty #[.slice (some ⟨g, o, none⟩) n c]).run Try.prog w = .ok (.tuple #[]) (w.setCells g o zs) := by
  refine ⟨(Builtin.zeroCells (Value.agg #[.int .u64 0, .int .u32 0, .slice none 0 0, .int .u64 0]).cells n).toList, fun ty => ?_⟩
  have hlen : (Builtin.zeroCells (Value.agg #[.int .u64 0, .int .u32 0, .slice none 0 0, .int .u64 0]).cells n).toList.length = n * 4 := by
    rw [Array.length_toList]; exact zeroCells_len _ n rfl
  have hone : ∀ v ∈ (Builtin.zeroCells (Value.agg #[.int .u64 0, .int .u32 0, .slice none 0 0, .int .u64 0]).cells n).toList, v.oneCell' = true := by
    intro v hv
    simp [Builtin.zeroCells, Value.cells] at hv
    obtain ⟨i, hi, rfl⟩ := hv
    have h4 : i % 4 = 0 ∨ i % 4 = 1 ∨ i % 4 = 2 ∨ i % 4 = 3 := by omega
    rcases h4 with h | h | h | h <;> rw [h] <;> rfl
  have hst := run_storeCells_cells (P := Try.prog) g o _ 0 w (by rw [hlen]; simpa using hc) (by rw [hlen]; simpa using hf) hone
  simp only [Nat.add_zero] at hst
  obtain ⟨m, rfl⟩ : ∃ m, n = m + 1 := ⟨n - 1, by omega⟩
  simp [Builtin.clear_, run_underlying Try.underlying22, zeroVer, hst]

theorem wpList_clear_ver {ops : Array Oper} {rest : List Oper} {o : Oper} {a : Act} {Q : Exit → Act → World → Prop} (w w' : World) (hg : o.guard = none) (m : Operand) (hop : o.op = Op.call { callee := Callee.builtin Builtin.clear, args := #[m], argTypes := #[22] }) (v : Value) (hm : a.eval m = v)
    (hrun : ∀ ty, (Builtin.clear_ #[22] ty #[v]).run Try.prog w = .ok (.tuple #[]) w') (hK : wpList Try.prog ops Q rest (a.put o.dst (.tuple #[])) w') : wpList Try.prog ops Q (o :: rest) a w := by
  refine wpList_plain hg fun K' hK' => ?_
  unfold Oper.wp
  simp [execOp, hop, resolve, invoke, builtin, hm, hrun, Result.andThen]
  exact hK' _ _ hK
theorem flat_take (cs : List RawV) (i : Nat) (h : i ≤ cs.length) : (cs.flatMap RawV.cells).take (i * 4) = (cs.take i).flatMap RawV.cells := by
  conv => lhs; rw [← List.take_append_drop i cs, List.flatMap_append]
  rw [List.take_left']
  rw [flat_len, List.length_take]
  omega
set_option maxHeartbeats 4000000 in
theorem deleteV_any (g0 : Nat) (cb : Array Value) (base g cap : Nat) (rs : List RawV) (pd : RawV → Bool) (w : World) (eg : ∀ args w, (callFunc g0 args).run Try.prog w = .ok (.enter g0 args) w)
    (ho : w.ownsRow base tVer 4 (.slice (some ⟨g, 0, none⟩) rs.length cap) rs.length (rs.flatMap RawV.cells)) (hmax : rs.length ≤ 2932031007402)
    (hpd : ∀ W r, r ∈ rs → w.grownBy W (some g) → Calls Try.prog g0 (#[.agg #[.int .u64 r.x.f0.f0, .int .u32 r.x.f0.f1, .slice r.A r.x.f1.length r.c, .int .u64 r.x.f2]] ++ cb) W fun e w' => e = .returned (.bool (pd r)) ∧ W.grownBy w' none) :
    Calls Try.prog 29 #[.slice (some ⟨g, 0, none⟩) rs.length cap, .func (.func g0) #[] cb] w fun e w' => e = .returned (.slice (some ⟨g, 0, none⟩) (rs.filter (fun r => !pd r)).length cap) ∧ w'.ownsRow base tVer 4 (.slice (some ⟨g, 0, none⟩) (rs.filter (fun r => !pd r)).length cap) (rs.filter (fun r => !pd r)).length ((rs.filter (fun r => !pd r)).flatMap RawV.cells) ∧ w.grownBy w' (some g) := by
  have hgw : g < w.heap.size := own_lt ho g rfl
  cases hix : rs.findIdx? pd with
  | none =>
    have hall : rs.filter (fun r => !pd r) = rs := by
      rw [List.filter_eq_self]
      intro r hr
      have := List.findIdx?_eq_none_iff.1 hix r hr
      simpa using this
    rw [hall]
    have hI := idxI_none hix
    go_enter Try.func29, Try.ntmps29
    go_wp2_with (first
      | (go_at_call 42; refine (indexFunc_any g0 cb base g cap rs pd _ eg ho hmax hpd).mono ?_; rintro e w1 ⟨he, hg1⟩; rw [hI] at he; subst he)
      | go_in)
    go_ret
    exact ⟨rfl, own_move ho (fun j hj => hg1.block j (own_lt ho j hj) (by simp)), hg1.but _⟩
  | some i0 =>
    have hI := idxI_some hix
    obtain ⟨hi0, hp0, hb0⟩ := List.findIdx?_eq_some_iff_getElem.1 hix
    have HD := Lib.hid hpd
    have hm1 : ((i0 : Int) == -1) = false := by
      rw [beq_eq_false_iff_ne]; omega
    have w0 := wrap_succ i0 (Nat.lt_of_lt_of_le hi0 (Nat.le_trans hmax (by decide)))
    go_enter Try.func29, Try.ntmps29
    go_wp2_with (first
      | (go_at_call 42; refine (indexFunc_any g0 cb base g cap rs pd _ eg ho hmax hpd).mono ?_; rintro e w1 ⟨he, hg1⟩; rw [hI] at he; subst he)
      | go_in)
    clear w0
    have ho1 := own_move ho (w1 := w1) (fun j hj => hg1.block j (own_lt ho j hj) (by simp))
    have hw1 := hg1.size
    have hstart : ((rs.take (i0 + 1)).filter (fun r => !pd r)) = rs.take i0 := by
      rw [List.take_succ_eq_append_getElem hi0, List.filter_append]
      have e1 : (rs.take i0).filter (fun r => !pd r) = rs.take i0 := by
        rw [List.filter_eq_self]
        intro r hr
        obtain ⟨j, hj, e⟩ := List.getElem_of_mem hr
        rw [List.getElem_take] at e
        have hj' : j < i0 := by rw [List.length_take] at hj; omega
        have := hb0 j hj'
        rw [e] at this
        simpa using this
      rw [e1]
      simp [hp0]
    go_loopw [5, 6] (fun vi vj wr => ∃ (i j : Nat) (cs : List RawV), i < j ∧ j ≤ rs.length ∧ vi = .int .i64 i ∧ vj = .int .i64 j ∧ cs.length = rs.length ∧ ((rs.take j).filter (fun r => !pd r)).length = i ∧ cs.take i = (rs.take j).filter (fun r => !pd r) ∧ (∀ t, j ≤ t → cs[t]? = rs[t]?) ∧
        wr.ownsRow base tVer 4 (.slice (some ⟨g, 0, none⟩) rs.length cap) rs.length (cs.flatMap RawV.cells) ∧ w.grownBy wr (some g))
      (fun _ vj _ => rs.length - (intOf vj).toNat)
    case atStart =>
      refine ⟨i0, i0 + 1, rs, by omega, by omega, rfl, by go_num, rfl, by rw [hstart, List.length_take]; omega, by rw [hstart], fun _ _ => rfl, ho1, hg1.but _⟩
    case round =>
      obtain ⟨i, j, cs, hij, hj, rfl, rfl, hcl, hln, htk, hdr, hown, hgw2⟩ := hrel
      by_cases hlt : j < rs.length
      · obtain ⟨r, hr⟩ : ∃ r, rs[j]? = some r := ⟨_, List.getElem?_eq_getElem hlt⟩
        have hrc : cs[j]? = some r := by rw [hdr j (Nat.le_refl _)]; exact hr
        obtain ⟨q0, q1, q2, q3⟩ := own_ver hown j (by omega) r hrc
        have hmem := List.mem_of_getElem? hr
        have hil : i < cs.length := by omega
        have hi63 : i < 9223372036854775807 := by omega
        have hj63 : j < 9223372036854775807 := by omega
        have hsz := hgw2.size
        have htj : rs.take (j + 1) = rs.take j ++ [r] := by
          rw [List.take_succ_eq_append_getElem hlt]
          rw [List.getElem?_eq_getElem hlt] at hr
          rw [Option.some.inj hr]
        cases hp : pd r
        · have hfj : (rs.take (j + 1)).filter (fun r => !pd r) = (rs.take j).filter (fun r => !pd r) ++ [r] := by
            rw [htj, List.filter_append]; simp [hp]
          obtain ⟨r', hr'⟩ : ∃ r', cs[i]? = some r' := ⟨_, List.getElem?_eq_getElem (by omega)⟩
          go_wp2_with (first
            | (go_at_fn g0; refine (HD.out _ r hmem (hgw2.andThen (grown_of_below (below_alloc (Below.refl _ _) _) none) (fun j hj => by cases hj))).mono ?_; rintro e w2 ⟨he, hg2⟩; rw [hp] at he; subst he; have hg12 : wr.grownBy w2 none := World.grownBy.andThen (grown_of_below (below_alloc (Below.refl _ _) _) none) hg2 (fun j hj => by cases hj); have hown2 := own_move hown (w1 := w2) (fun j hj => hg12.block j (own_lt hown j hj) (by simp)); obtain ⟨p0, p1, p2, p3⟩ := own_ver hown2 i hil r' hr'; have f0 := own_frz hown2 (i * 4); have f1 := own_frz hown2 (i * 4 + 1); have f2 := own_frz hown2 (i * 4 + 2); have f3 := own_frz hown2 (i * 4 + 3); have hbx := blk_grown (blk_new wr (.cells #[.int .u64 r.x.f0.f0, .int .u32 r.x.f0.f1, .slice r.A r.x.f1.length r.c, .int .u64 r.x.f2] tVer)) hg2 (by simp); have b0 := blk_cell hbx 0; have b1 := blk_cell hbx 1; have b2 := blk_cell hbx 2; have b3 := blk_cell hbx 3)
            | go_in)
          have hown3 := own_set4 hown2 i hil r
          have hg23 : w2.grownBy ((((w2.setCell ⟨g, i * 4, none⟩ (.int .u64 r.x.f0.f0)).setCell ⟨g, i * 4 + 1, none⟩ (.int .u32 r.x.f0.f1)).setCell ⟨g, i * 4 + 2, none⟩ (.slice r.A r.x.f1.length r.c)).setCell ⟨g, i * 4 + 3, none⟩ (.int .u64 r.x.f2)) (some g) :=
            ⟨rfl, rfl, rfl, by simp, fun k hk hn => by
              have hne : k ≠ g := fun e => hn (by rw [e])
              rw [Below.heap_setCell _ _ _ _ hne, Below.heap_setCell _ _ _ _ hne, Below.heap_setCell _ _ _ _ hne, Below.heap_setCell _ _ _ _ hne]⟩
          go_roundw
          case rel =>
            refine ⟨i + 1, j + 1, cs.set i r, by omega, by omega, by go_num, by go_num, by rw [List.length_set]; exact hcl, by rw [hfj, List.length_append, hln]; rfl, ?_, fun t ht => ?_, hown3, (hgw2.andThen hg12 (fun j hj => by cases hj)).andThen hg23 (fun j hj => by cases hj; exact Or.inr rfl)⟩
            · rw [hfj, ← htk, List.take_add_one, List.getElem?_set_self (by omega), List.take_set_of_le (Nat.le_refl _)]
              rfl
            · rw [List.getElem?_set_ne (by omega)]; exact hdr t (by omega)
          case measure => simp [intOf]; omega
        · have hfj : (rs.take (j + 1)).filter (fun r => !pd r) = (rs.take j).filter (fun r => !pd r) := by
            rw [htj, List.filter_append]; simp [hp]
          go_wp2_with (first
            | (go_at_fn g0; refine (HD.out _ r hmem (hgw2.andThen (grown_of_below (below_alloc (Below.refl _ _) _) none) (fun j hj => by cases hj))).mono ?_; rintro e w2 ⟨he, hg2⟩; rw [hp] at he; subst he; have hg12 : wr.grownBy w2 none := World.grownBy.andThen (grown_of_below (below_alloc (Below.refl _ _) _) none) hg2 (fun j hj => by cases hj))
            | go_in)
          go_roundw
          case rel =>
            exact ⟨i, j + 1, cs, by omega, by omega, rfl, by go_num, hcl, by rw [hfj]; exact hln, by rw [hfj]; exact htk, fun t ht => hdr t (by omega), own_move hown (fun j hj => hg12.block j (own_lt hown j hj) (by simp)), hgw2.andThen hg12 (fun j hj => by cases hj)⟩
          case measure => simp [intOf]; omega
      · obtain rfl : j = rs.length := by omega
        rw [List.take_length] at hln htk
        obtain ⟨cur, hcur, hcap, hcap2, hcs, htc, hbg⟩ := own_form hown
        obtain ⟨zs, hzs⟩ : ∃ zs : List Value, ∀ ty, (Builtin.clear_ #[22] ty #[.slice (some ⟨g, i * 4, none⟩) (rs.length - i) (cap - i)]).run Try.prog wr = .ok (.tuple #[]) (wr.setCells g (i * 4) zs) :=
          run_clear_ver wr g (i * 4) (rs.length - i) (cap - i) (by omega) (fun t ht => by rw [blk_cell hcur]; simp; omega) (fun t ht => blk_frozen hcur _)
        obtain ⟨cur', hc1, hc2, hc3, hc4⟩ := setCells_block zs wr g (i * 4) cur tVer hcur
        go_wp2_with (first
          | (refine wpList_clear_ver _ _ rfl _ rfl _ rfl hzs ?_)
          | go_in)
        go_ret
        refine ⟨by rw [hln]; rfl, ?_, hgw2.andThen hc4 (fun j hj => by cases hj; exact Or.inr rfl)⟩
        rw [hln]
        refine ⟨by rw [flat_len, hln], .inr ⟨g, cap, cur', rfl, hbg, hc1, by omega, hcap2, by rw [hc2]; exact hcs, ?_⟩⟩
        rw [← htk]
        have e1 : cur'.toList.take (i * 4) = cur.toList.take (i * 4) := by
          apply List.ext_getElem?
          intro t
          by_cases ht : t < i * 4
          · rw [List.getElem?_take_of_lt ht, List.getElem?_take_of_lt ht, Array.getElem?_toList, Array.getElem?_toList, hc3 t ht]
          · rw [List.getElem?_take_eq_none (by omega), List.getElem?_take_eq_none (by omega)]
        have e2 : cur.toList.take (i * 4) = (cs.flatMap RawV.cells).take (i * 4) := by
          rw [← htc, List.take_take]; congr 1; omega
        rw [e1, e2]
        exact flat_take cs i (by omega)
end Go.Proofs.Ytfepfpcilmaojaa.QV
/- recover.Changes. -/
namespace Go.Proofs.Ytfepfpcilmaojaa.QV
open Go.RowKit Go.Proofs.YtfepfpcilmaojaaW.PrintWords Go.Proofs.Ytfepfpcilmaojaa.Seq Go.Proofs.Ytfepfpcilmaojaa.Mp Go.Shelf
set_option linter.unusedVariables false
set_option linter.unusedSimpArgs false
set_option maxRecDepth 100000
/-- What did not change since. -/
def oldP (since : Int) (x : Ver) : Bool := decide (x.f0.f0 ≤ since) && decide (x.f2 ≤ since)
theorem changes1_any (x : Ver) (A : Option Addr) (c : Nat) (eb : Nat) (ep : Int) (W : World) (hc : W.cell? ⟨eb, 0, none⟩ = some (.int .u64 ep)) :
    Calls Try.prog 30 #[.agg #[.int .u64 x.f0.f0, .int .u32 x.f0.f1, .slice A x.f1.length c, .int .u64 x.f2], .pointer (some ⟨eb, 0, none⟩)] W fun e w' => e = .returned (.bool (oldP ep x)) ∧ W.grownBy w' none := by
  have hlt : eb < W.heap.size := World.block_lt_of_cell? W _ hc
  unfold oldP
  cases h1 : decide (x.f0.f0 ≤ ep)
  · go_enter Try.func30, Try.ntmps30
    go_wp2
    go_ret
    exact ⟨by simp [h1], grown_of_below (by repeat (first | exact Below.refl _ _ | apply below_alloc)) none⟩
  · go_enter Try.func30, Try.ntmps30
    go_wp2
    go_ret
    exact ⟨by simp [h1], grown_of_below (by repeat (first | exact Below.refl _ _ | apply below_alloc)) none⟩

theorem indexNil_any (f : Value) (w : World) :
    Calls Try.prog 42 #[.slice none 0 0, f] w fun e w' => e = .returned (.int .i64 (-1)) ∧ w.grownBy w' none := by
  go_enter Try.func42, Try.ntmps42
  go_wp2
  go_loopw [8] (fun i wr => i = .int .i64 0 ∧ wr = w) (fun i _ => 0)
  case atStart => exact ⟨rfl, rfl⟩
  case round =>
    obtain ⟨rfl, rfl⟩ := hrel
    go_wp2
    go_ret
    exact ⟨rfl, ⟨rfl, rfl, rfl, Nat.le_refl _, fun _ _ _ => rfl⟩⟩
theorem deleteNil_any (g0 : Nat) (cb : Array Value) (w : World) :
    Calls Try.prog 29 #[.slice none 0 0, .func (.func g0) #[] cb] w fun e w' => e = .returned (.slice none 0 0) ∧ w.grownBy w' none := by
  go_enter Try.func29, Try.ntmps29
  go_wp2_with (first
    | (go_at_call 42; refine (indexNil_any _ _).mono ?_; rintro e w1 ⟨rfl, hg1⟩)
    | go_in)
  go_ret
  exact ⟨rfl, hg1⟩

theorem filter_tag {α : Type} (p : α → Bool) (l : List α) (n : Nat) : ((l.zipIdx n).filter (fun q => p q.1)).map Prod.fst = l.filter p := by
  induction l generalizing n with
  | nil => rfl
  | cons a l ih =>
    rw [List.zipIdx_cons, List.filter_cons, List.filter_cons]
    cases h : p a
    · simpa [h] using ih (n + 1)
    · simpa [h] using ih (n + 1)
theorem Mid.filtered {w W W' : World} {g cap : Nat} {L : List Ver} {m : Nat → Nat} {rs : List RawV} (h : Mid w W g cap L.length L L.length m rs) (pd : Ver → Bool) (hg : W.grownBy W' (some g))
    (ho : W'.ownsRow w.heap.size tVer 4 (.slice (some ⟨g, 0, none⟩) (rs.filter (fun r => !pd r.x)).length cap) (rs.filter (fun r => !pd r.x)).length ((rs.filter (fun r => !pd r.x)).flatMap RawV.cells)) :
    Kd.S kVer tVer W' w.heap.size (fun _ => True) (.slice (some ⟨g, 0, none⟩) (rs.filter (fun r => !pd r.x)).length cap) (L.filter (fun x => !pd x)) := by
  have hl : rs.length = L.length := by rw [← h.vers, List.length_map]
  have hf := filter_tag (fun r : RawV => !pd r.x) rs 0
  have hlen : (rs.zipIdx.filter (fun q => !pd q.1.x)).length = (rs.filter (fun r => !pd r.x)).length := by rw [← hf, List.length_map]
  have hL : L.filter (fun x => !pd x) = (rs.zipIdx.filter (fun q => !pd q.1.x)).map (·.1.x) := by
    rw [← h.vers, List.filter_map]
    have : (rs.zipIdx.filter (fun q => !pd q.1.x)).map (·.1.x) = ((rs.zipIdx.filter (fun q => !pd q.1.x)).map Prod.fst).map (·.x) := by rw [List.map_map]; rfl
    rw [this, hf]; rfl
  rw [hL, ← hlen]
  refine S_parts (w := w) (m := m) h.mono (fun j => (h.low j).2) (by rw [hf, hlen]; exact ho) ?_ ?_
  · refine List.Pairwise.filter _ ?_
    rw [List.pairwise_iff_getElem]
    intro i j hi hj hij
    simpa using hij
  · intro q hq
    have hq' := (List.mem_filter.1 hq).1
    have hqr : rs[q.2]? = some q.1 := by
      obtain ⟨r, i⟩ := q
      simpa using (List.mk_mem_zipIdx_iff_getElem?.1 hq')
    have hlt : q.2 < L.length := by rw [← hl]; exact (List.getElem?_eq_some_iff.1 hqr).1
    exact Kd.R_grown (h.new q.2 q.1 hlt hqr) hg (fun k hk => by have := (h.low q.2).2; intro e; injection e with e; omega)

theorem ownRow_form {w : World} {base c : Nat} {A : Option Addr} {e sz : Nat} (h : w.ownsRow base e sz (.slice A 0 c) 0 []) : (A = none ∧ c = 0) ∨ ∃ g, A = some ⟨g, 0, none⟩ := by
  rcases h.2 with ⟨hv, _⟩ | ⟨g', cap', cur', hv, _⟩
  · injection hv with e1 e2 e3; exact .inl ⟨e1, e3⟩
  · injection hv with e1 e2 e3; exact .inr ⟨g', e1⟩
theorem delO_any (eb : Nat) (since : Int) (wb w : World) (v : Value) (L : List Ver) (hO : OwnV wb w v L) (hmax : L.length ≤ 2932031007402) (heb : eb < wb.heap.size) (hc : w.heap[eb]? = some (.cells #[.int .u64 since] 23 (0, 0))) :
    Calls Try.prog 29 #[v, .func (.func 30) #[] #[.pointer (some ⟨eb, 0, none⟩)]] w fun e w' => ∃ v' g, e = .returned v' ∧ Kd.S kVer tVer w' wb.heap.size (fun _ => True) v' (L.filter (fun x => !oldP since x)) ∧ wb.heap.size ≤ g ∧ w.grownBy w' (some g) := by
  have heg : ∀ (args : Array Value) (w : World), (callFunc 30 args).run Try.prog w = .ok (.enter 30 args) w := fun args w => by kernel_rfl
  have hpd : ∀ g, wb.heap.size ≤ g → ∀ (rs : List RawV) W r, r ∈ rs → w.grownBy W (some g) → Calls Try.prog 30 (#[.agg #[.int .u64 r.x.f0.f0, .int .u32 r.x.f0.f1, .slice r.A r.x.f1.length r.c, .int .u64 r.x.f2]] ++ #[.pointer (some ⟨eb, 0, none⟩)]) W fun e w' => e = .returned (.bool (oldP since r.x)) ∧ W.grownBy w' none :=
    fun g hg rs W r _ hgw => changes1_any r.x r.A r.c eb since W (blk_cell (blk_grown hc hgw (by intro e; injection e with e; omega)) 0)
  rcases hO with ⟨rfl, A, c, rfl, h⟩ | ⟨_, g, cap, m, rs, rfl, h⟩
  · rcases ownRow_form h with ⟨rfl, rfl⟩ | ⟨g, rfl⟩
    · refine (deleteNil_any _ _ w).mono ?_
      rintro e w' ⟨rfl, hg⟩
      have hwb : wb.heap.size ≤ max wb.heap.size w.heap.size := Nat.le_max_left _ _
      exact ⟨_, max wb.heap.size w.heap.size, rfl, own_nil_S (own_move h (fun j hj => by cases hj)), hwb, hg.but _⟩
    · have hbg : wb.heap.size ≤ g := (own_form h).elim fun _ h => h.2.2.2.2.2
      refine (deleteV_any 30 #[.pointer (some ⟨eb, 0, none⟩)] wb.heap.size g c [] (fun r => oldP since r.x) w heg h (by simp) (hpd g hbg [])).mono ?_
      rintro e w' ⟨rfl, ho, hg⟩
      exact ⟨_, g, rfl, own_nil_S ho, hbg, hg⟩
  · have hbg : wb.heap.size ≤ g := (own_form h.own).elim fun _ h => h.2.2.2.2.2
    have hl : rs.length = L.length := by rw [← h.vers, List.length_map]
    have ho := h.own
    rw [← hl] at ho
    have hD := (deleteV_any 30 #[.pointer (some ⟨eb, 0, none⟩)] wb.heap.size g cap rs (fun r => oldP since r.x) w heg ho (by rw [hl]; exact hmax) (hpd g hbg rs))
    rw [hl] at hD
    refine hD.mono ?_
    rintro e w' ⟨rfl, ho, hg⟩
    exact ⟨_, g, rfl, h.filtered (oldP since) hg ho, hbg, hg⟩
set_option maxHeartbeats 2000000 in
theorem changes_any (A : Option Addr) (l : List Ver) (c : Nat) (since ep : Int) (w : World) (hr : kVer.C w A l.length l) (hc : l.length ≤ c) (hok : ∀ x ∈ l, Nok x.f0) (hb : l.length * 48 ≤ 140737488355328) (hrow : ∀ x ∈ l, x.f1.length * 40 ≤ 140737488355328) :
    Calls Try.prog 12 #[.slice A l.length c, .int .u64 since, .int .u64 ep] w fun e w' => ∃ v L, e = .returned v ∧ IsTold (uptoF l ep) L ∧ L.length ≤ l.length ∧ Kd.S kVer tVer w' w.heap.size (fun _ => True) v (L.filter (fun x => !oldP since x)) ∧ Below w.heap.size w w' := by
  have hB0 : Below w.heap.size w (w.alloc (.cells #[.int .u64 since] 23)) := below_alloc (Below.refl _ _) _
  have hb0 := blk_new w (.cells #[.int .u64 since] 23)
  have hs0 : (w.alloc (.cells #[.int .u64 since] 23)).heap.size = w.heap.size + 1 := by simp
  go_enter Try.func12, Try.ntmps12
  go_wp2_with (first
    | (go_at_call 11; refine (upto_any A l c ep _ (Kd.C_below hr hB0) hc hok hb hrow).mono ?_; rintro e w1 ⟨v, L, wb, rfl, hT, hLl, hBb, hO, hB1⟩; have hsb := hBb.size; have hB01 := btr' hB0 hB1)
    | (go_at_call 29; refine (delO_any w.heap.size since wb w1 v L hO (by omega) (by omega) (blk_below hb0 hB1)).mono ?_; rintro e w2 ⟨v', g, rfl, hS, hg, hgw⟩)
    | go_in)
  go_ret
  exact ⟨v', L, rfl, hT, hLl, Kd.S_lower hS (by omega), hB01.grown hgw hB01.size (fun k e => by cases e; omega)⟩
end Go.Proofs.Ytfepfpcilmaojaa.QV
/- recover.Merged. -/
namespace Go.Proofs.Ytfepfpcilmaojaa.QV
open Go.RowKit Go.Proofs.YtfepfpcilmaojaaW.PrintWords Go.Proofs.Ytfepfpcilmaojaa.Seq Go.Proofs.Ytfepfpcilmaojaa.Mp Go.Shelf
set_option linter.unusedVariables false
set_option linter.unusedSimpArgs false
set_option maxRecDepth 100000
theorem orU_f (a b : Int) : QO.cmp_Or_uint64.f 3 [a, b] = some (if a = 0 then b else a) := by
  simp [QO.cmp_Or_uint64.f, QO.cmp_Or_uint64.l0, rd, wrap64]
  (repeat split) <;> first | rfl | omega | simp_all
theorem lit2_C (W : World) (g : Nat) (hg : g = W.heap.size) (a b : Int) : Kd.C (Kd.int .u64) (W.alloc (.cells #[.int .u64 a, .int .u64 b] 23)) (some ⟨g, 0, none⟩) 2 [a, b] := by
  subst hg
  have h := own_lit W 0 23 .u64 [a, b] (Nat.zero_le _) (by simp)
  obtain ⟨A, c, e, hr⟩ := own_reads h
  simp at e
  obtain ⟨rfl, rfl⟩ := e
  exact Kd.C_of_reads hr
/-- Two versions of one name. -/
def mergeV (x y : Ver) : Ver := ⟨x.f0, x.f1, if x.f2 = 0 then y.f2 else x.f2⟩
def mergedF (have_ more : List Ver) (k : Nm) : Option Ver :=
  match firstOf have_ k, firstOf more k with
  | some x, some y => some (mergeV x y)
  | some x, none => some x
  | none, o => o
theorem mergedF_f0 (l m : List Ver) (k : Nm) (x : Ver) (h : mergedF l m k = some x) : x.f0 = k := by
  unfold mergedF at h
  split at h
  · rename_i x' y' h1 h2; cases h; exact firstOf_f0 l k x' h1
  · rename_i x' h1 h2; cases h; exact firstOf_f0 l k _ h1
  · exact firstOf_f0 m k x h
theorem mergedF_f1 (l m : List Ver) (k : Nm) (x : Ver) (h : mergedF l m k = some x) : ∃ y, (y ∈ l ∨ y ∈ m) ∧ x.f1 = y.f1 := by
  unfold mergedF at h
  split at h
  · rename_i x' y' h1 h2; cases h; exact ⟨x', .inl (firstOf_mem l k x' h1), rfl⟩
  · rename_i x' h1 h2; cases h; exact ⟨_, .inl (firstOf_mem l k _ h1), rfl⟩
  · exact ⟨x, .inr (firstOf_mem m k x h), rfl⟩

set_option maxHeartbeats 4000000 in
theorem merged_any (A0 : Option Addr) (c0 : Nat) (l : List Ver) (A1 : Option Addr) (c1 : Nat) (m : List Ver) (w : World) (hr0 : kVer.C w A0 l.length l) (hc0 : l.length ≤ c0) (hr1 : kVer.C w A1 m.length m) (hc1 : m.length ≤ c1)
    (hok0 : ∀ x ∈ l, Nok x.f0) (hok1 : ∀ x ∈ m, Nok x.f0) (hb0 : l.length * 48 ≤ 140737488355328) (hb1 : m.length * 48 ≤ 140737488355328) (Lc : List Nm) (hLc : ∀ k, mergedF l m k ≠ none → k ∈ Lc) (hbc : Lc.length * 48 ≤ 140737488355328)
    (hrow0 : ∀ x ∈ l, x.f1.length * 40 ≤ 140737488355328) (hrow1 : ∀ x ∈ m, x.f1.length * 40 ≤ 140737488355328) :
    Calls Try.prog 17 #[.slice A0 l.length c0, .slice A1 m.length c1] w fun e w' => ∃ v L, e = .returned v ∧ IsTold (mergedF l m) L ∧ L.length ≤ Lc.length ∧ Kd.S kVer tVer w' w.heap.size (fun _ => True) v L ∧ Below w.heap.size w w' := by
  go_enter Try.func17, Try.ntmps17
  go_wp2_with (first
    | (go_at_call 25; have tk1 := hr0; refine (once_any A0 l c0 w _ (Below.refl _ _) hr0 hc0 hok0 (by omega)).mono ?_; rintro e w1 ⟨rfl, ⟨f1, hM1, hF1⟩, hB1⟩; clear hr0)
    | (go_at_call 25; refine (once_any A1 m c1 w _ hB1 hr1 hc1 hok1 (by omega)).mono ?_; rintro e w2 ⟨rfl, ⟨f2, hM2, hF2⟩, hB2⟩; clear hr1)
    | (at_range; refine wpList_range_map _ rfl _ tMap rfl tVer Try.underlying52 rfl hM2 ?_; intro w3 cnt3 hrg3 hc3 hg3 hs3)
    | go_in)
  go_frame
  have hB03 : Below w.heap.size w w3 := (btr' hB1 hB2).grown hg3 (btr' hB1 hB2).size (fun k e => by cases e)
  have hbw1 := hM1.lt
  have hbw2 := hM2.lt
  have hM13 : MapIs nmK w3 w.heap.size l.length f1 := (hM1.below hB2).at (hg3.block _ (Nat.lt_of_lt_of_le hbw1 hB2.size) (by simp))
  have hN : ∀ (f : Nm → Option Value) (todo : Nm → Bool), FIs w f (fun k => if todo k = true then firstOf l k else mergedF l m k) → ∀ a, Nok a → f a ≠ none → a ∈ Lc := fun f todo hF a ha hne => by
    refine hLc a ?_
    rcases hF a ha with ⟨_, h2⟩ | ⟨u, x, h1, h2, _⟩
    · exact absurd h2 hne
    · by_cases e : todo a = true
      · simp only [e, if_true] at h2
        unfold mergedF
        rw [h2]
        cases firstOf m a <;> simp
      · simp only [e] at h2
        intro h; simp [h] at h2
  go_loopw [16] (fun _ wr => ∃ (todo : Nm → Bool) (cnt : Nat) (f : Nm → Option Value), RangeIs nmK wr w1.heap.size w2.heap.size m.length f2 todo cnt ∧ MapIs nmK wr w.heap.size Lc.length f ∧ FIs w f (fun k => if todo k = true then firstOf l k else mergedF l m k) ∧ Below w.heap.size w wr)
    (fun _ wr => wr.rangeLeft w1.heap.size w2.heap.size)
  case atStart =>
    have hF : FIs w f1 (fun k => if (f2 k).isSome = true then firstOf l k else mergedF l m k) := hF1.congr (fun k hk => by
      rw [hF2.some_ hk]
      cases h : firstOf m k with
      | none => simp [mergedF, h]; cases firstOf l k <;> rfl
      | some y => simp)
    exact ⟨_, cnt3, f1, hrg3, hM13.bound Lc (hN _ _ hF), hF, hB03⟩
  case round =>
    obtain ⟨todo, cnt, f, hrg, hMf, hF, hBr⟩ := hrel
    go_wp2_with (first
      | (at_next; refine wpList_next_map _ rfl _ rfl rfl hrg ?_ ?_)
      | go_in)
    · intro _ hl0
      have hFe : FIs w f (mergedF l m) := hF.congr (fun k hk => by simp [hl0 k hk])
      go_wp2_with (first
        | (go_at_call 28; refine (told_any w.heap.size Lc.length (mergedF l m) _ _ hMf (hFe.below hBr) (mergedF_f0 l m) hbc ?_).mono ?_)
        | go_in)
      · intro k x hk
        obtain ⟨y, hy, e⟩ := mergedF_f1 l m k x hk
        rw [e]; exact hy.elim (hrow0 y) (hrow1 y)
      · rintro e w6 ⟨v, L, rfl, hT, hLl, hS, hB6⟩
        go_wp2
        go_ret
        exact ⟨v, L, rfl, hT, hLl, Kd.S_lower hS.S hBr.size, btr' hBr hB6⟩
    · intro a v w4 cnt4 hak htd hfv hrg4 hlt hg4 hs4 hen
      rw [nmK_val] at hen
      obtain ⟨y, hFy, Ay, cy, rfl, hly, hCy⟩ := hF2.get hak hfv
      have hy0 := firstOf_f0 m a y hFy
      have hB4 : Below w.heap.size w w4 := hBr.grown hg4 hBr.size (fun k e => by cases e; exact Nat.le_trans hB1.size hB2.size)
      have hsz1 := hB1.size
      have hsz2 := hB2.size
      have hM4 : MapIs nmK w4 w.heap.size Lc.length f := hMf.at (hg4.block _ hMf.lt (by intro e; injection e with e; omega))
      have hmw := hrg4.map.lt
      have hk4 := hrg4.lt
      have htd' : (firstOf m a) = some y := hFy
      rcases hF a hak with ⟨h1, h2⟩ | ⟨u, x, h1, h2, Ax, cx, rfl, hlx, hCx⟩
      · have h1' : firstOf l a = none := by simpa [htd] using h1
        go_wp2_with (first
          | (at_lookup; refine wpList_look_map _ rfl _ _ tMap rfl tVer Try.underlying52 rfl (hM4.below (by repeat (first | exact Below.refl _ _ | apply below_alloc))) (zeroVer _) a hak rfl ?_; simp only [h2, Option.getD_none, Option.isSome_none])
          | (at_mapUpdate; refine wpList_put_map _ rfl _ _ _ tMap rfl tVer Try.underlying52 rfl (hM4.below (by repeat (first | exact Below.refl _ _ | apply below_alloc))) (by unfold maxLen; omega) a hak rfl (.agg #[.int .u64 a.f0, .int .u32 a.f1, .slice Ay y.f1.length cy, .int .u64 y.f2]) rfl ?_; intro w5 hM5 hturn5; have hg45 : w4.grownBy w5 (some w.heap.size) := World.grownBy.andThen (grown_of_below (by repeat (first | exact Below.refl _ _ | apply below_alloc)) (some w.heap.size)) hturn5.grown (fun j hj => by cases hj; exact Or.inr rfl); go_frame)
          | go_in)
        have hrg5 := hrg4.at (hg45.block _ hmw (by intro e; injection e with e; omega)) (hg45.block _ hk4 (by intro e; injection e with e; omega))
        have hF5 : FIs w (upd f a (some (.agg #[.int .u64 a.f0, .int .u32 a.f1, .slice Ay y.f1.length cy, .int .u64 y.f2]))) (fun k => if (todo k && !decide (k = a)) = true then firstOf l k else mergedF l m k) :=
          (hF.upd_ a (x := y) ⟨Ay, cy, by rw [hy0], hly, hCy⟩).congr (fun z hz => by
            unfold updV
            by_cases e : z = a
            · subst e; simp [mergedF, h1', htd']
            · simp [e])
        go_roundw
        case rel => exact ⟨_, cnt4, _, hrg5, hM5.bound Lc (hN _ _ hF5), hF5, hB4.grown hg45 hB4.size (fun k e => by cases e; exact Nat.le_refl _)⟩
        case measure => rw [hrg5.left_eq, hrg.left_eq]; exact hlt
      · have h2' : firstOf l a = some x := by simpa [htd] using h2
        have hx0 := firstOf_f0 l a x h2'
        obtain ⟨z, hz⟩ : ∃ z, (if x.f2 = 0 then y.f2 else x.f2) = z := ⟨_, rfl⟩
        go_wp2_with (first
          | (at_lookup; refine wpList_look_map _ rfl _ _ tMap rfl tVer Try.underlying52 rfl (hM4.below (by repeat (first | exact Below.refl _ _ | apply below_alloc))) (zeroVer _) a hak rfl ?_; simp only [h1, Option.getD_some, Option.isSome_some])
          | (go_at_call 33; refine (QO.cmp_Or_uint64.calls 3 _ 2 [x.f2, y.f2] z _ (lit2_C _ _ (by simp [hs4]) x.f2 y.f2) (by simp) (by rw [orU_f, hz])).mono ?_; rintro e _ ⟨rfl, ⟨⟨nn, rfl⟩⟩⟩)
          | (at_mapUpdate; refine wpList_put_map _ rfl _ _ _ tMap rfl tVer Try.underlying52 rfl (hM4.below (Below.setCell (pw_below_drewN (by repeat (first | exact Below.refl _ _ | apply below_alloc)) _) (by rw [hs4]; exact Nat.le_succ _) _)) (by unfold maxLen; omega) a hak rfl (.agg #[.int .u64 a.f0, .int .u32 a.f1, .slice Ax x.f1.length cx, .int .u64 z]) rfl ?_; intro w5 hM5 hturn5; have hg45 : w4.grownBy w5 (some w.heap.size) := World.grownBy.andThen (grown_of_below (Below.setCell (pw_below_drewN (by repeat (first | exact Below.refl _ _ | apply below_alloc)) _) (by rw [hs4]; exact Nat.le_succ _) _) (some w.heap.size)) hturn5.grown (fun j hj => by cases hj; exact Or.inr rfl); go_frame)
          | go_in)
        have hrg5 := hrg4.at (hg45.block _ hmw (by intro e; injection e with e; omega)) (hg45.block _ hk4 (by intro e; injection e with e; omega))
        have hF5 : FIs w (upd f a (some (.agg #[.int .u64 a.f0, .int .u32 a.f1, .slice Ax x.f1.length cx, .int .u64 z]))) (fun k => if (todo k && !decide (k = a)) = true then firstOf l k else mergedF l m k) :=
          (hF.upd_ a (x := mergeV x y) ⟨Ax, cx, by simp only [mergeV, hx0, hz], hlx, hCx⟩).congr (fun z hz => by
            unfold updV
            by_cases e : z = a
            · subst e; simp [mergedF, h2', htd']
            · simp [e])
        go_roundw
        case rel => exact ⟨_, cnt4, _, hrg5, hM5.bound Lc (hN _ _ hF5), hF5, hB4.grown hg45 hB4.size (fun k e => by cases e; exact Nat.le_refl _)⟩
        case measure => rw [hrg5.left_eq, hrg.left_eq]; exact hlt
end Go.Proofs.Ytfepfpcilmaojaa.QV
