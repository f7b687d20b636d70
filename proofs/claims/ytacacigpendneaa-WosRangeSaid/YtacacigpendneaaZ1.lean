/- The parts QVx0, MapG, Map, RoundW, WVer, QOx0, QOx1, WOrd, SeqP, Keys, Collect, Shelf, WSorted, QVx1, QVx2, QVx3, WTell, QVx4 of this proof, one behind the other. -/
import Derived.Test.YtacacigpendneaaZW1
import Derived.Test.YtacacigpendneaaProg
import Derived.Below
import Derived.Deep.Draws
import Derived.Deep.AppendLies
import Derived.Maps.AppendAt
import Derived.OwnWalk
import Derived.Laws.BytesArg
import Derived.Laws.MakeOwn
import Derived.Laws.OwnMore
import Derived.Deep.OwnRows
import Derived.Tactics
import Derived.Lib.ConvBytes
import Derived.Laws.Slices
import Derived.WalkKit
import Derived.KernelRfl
import Derived.RowKit3
import Derived.Deep.LoopGhost
import Derived.Deep.QuietTactic
import Derived.BigQuiet
import Derived.WideLaws
import Derived.Deep.DeepCutAuto
import Derived.Deep.CutBlock
import Derived.Deep.RegionHeld3
import Derived.Laws.Rows
import Derived.Lib.AppendStr
import Derived.ArgAppend
import Derived.Laws.IdiomCopy
import Derived.OrdersHeld
import Derived.Laws.BitsLemmas
import Derived.RowKit
import Derived.Maps.OwnSet
import Derived.Maps.OwnOps
import Derived.Maps.RangeWalk
import Derived.Maps.Ext
import Derived.DeepKeys4
import Derived.Sort.MapsRangeIn
import Derived.OrdersIn
import Derived.TacticsIn
import Derived.RangeFuncCalls
import Derived.Deep.RegionHeld
import Derived.Lib.Hide
import Derived.Handy
import Derived.Sort.Grow
import Derived.RangeFuncNested
import Derived.RangeFuncBound
import Derived.RangeFuncLeaves
import Derived.Shelf.Abstract
import Derived.OwnWalkIn
import Derived.TacticsInMore
import Derived.LoopNIn
import Derived.LoopIn
import Derived.Maps.OwnIn
import Derived.Shelf.Small.Bits
import Derived.Shelf.SlSortCmp.WholeK
import Derived.Sort.OwnSorted
/- Printed by mp.py (this session's) with the kit's print: plain functions with the answers of the Go code, and the proofs of it. -/
namespace Go.Proofs.Ytacacigpendneaa.QV
open Go.RowKit Go.Proofs.YtacacigpendneaaW.PrintWords Go.Proofs.YtacacigpendneaaW.PrintLast Go.Proofs.YtacacigpendneaaW.PrintMore
attribute [local go_sem] max2_int min2_int max_two min_two max_three min_three max_four min_four   -- for this text's walks alone
set_option linter.unusedVariables false
set_option linter.unusedSimpArgs false



def errW : Option Int → Value
  | none => .nilIface
  | some c => .iface 0 (.int .i64 c)
theorem errW_none : errW none = .nilIface := rfl
theorem errW_some (c : Int) : errW (some c) = .iface 0 (.int .i64 c) := rfl

theorem info29 : (Try.prog.info? 29).map (fun i => (i.zero, i.size, i.bytes)) = some (some (.agg #[(.int .u64 0), (.int .u32 0), (.slice none 0 0), (.int .u64 0)]), 4, 48) := by kernel_rfl
-- the values' own types
/-! #### struct type 69 -/
structure S69 where
  f0 : Int
  f1 : Bool
  f2 : Int
  f3 : ByteArray
def z69 : S69 := ⟨(0 : Int), false, (0 : Int), (⟨#[]⟩ : ByteArray)⟩
def k69 : Kd S69 := Kd.iso (Kd.pair (Kd.int .i64) (Kd.pair Kd.bool (Kd.pair (Kd.int .i64) Kd.string))) (fun x : S69 => (x.f0, x.f1, x.f2, x.f3))
theorem k69_heap : Kd.Heap k69 := Kd.heap_iso _ (Kd.heap_pair (Kd.heap_int .i64) (Kd.heap_pair Kd.heap_bool (Kd.heap_pair (Kd.heap_int .i64) Kd.heap_string)))
theorem k69_open {w : World} {x : S69} {cs : List Value} (h : k69.K w x cs) : cs = [.int .i64 x.f0, .bool x.f1, .int .i64 x.f2, .string x.f3] := by
  obtain ⟨_, _, rfl, rfl, ⟨_, _, rfl, rfl, ⟨_, _, rfl, rfl, rfl⟩⟩⟩ := h
  exact rfl
theorem k69_mk (w : World) (x : S69)  : k69.K w x [.int .i64 x.f0, .bool x.f1, .int .i64 x.f2, .string x.f3] := ⟨[.int .i64 x.f0], [.bool x.f1, .int .i64 x.f2, .string x.f3], rfl, rfl, ⟨[.bool x.f1], [.int .i64 x.f2, .string x.f3], rfl, rfl, ⟨[.int .i64 x.f2], [.string x.f3], rfl, rfl, rfl⟩⟩⟩
theorem k69_mkM (w : World) (base : Nat) (ok : Nat → Prop) (x : S69)  : k69.M w base ok x [.int .i64 x.f0, .bool x.f1, .int .i64 x.f2, .string x.f3] := ⟨[.int .i64 x.f0], [.bool x.f1, .int .i64 x.f2, .string x.f3], rfl, rfl, ⟨[.bool x.f1], [.int .i64 x.f2, .string x.f3], rfl, rfl, ⟨[.int .i64 x.f2], [.string x.f3], rfl, rfl, rfl⟩⟩⟩
def rd_T69 (xs : List S69) (i : Int) : S69 := xs.getD i.toNat z69
theorem at_T69 {w : World} {A : Option Addr} {n : Nat} {xs : List S69} (h : Kd.C k69 w A n xs) (i : Int) (h0 : 0 ≤ i) (h1 : i < n) : ∃ ad , A = some ad ∧ w.cell? (ad.add (i.toNat * 4)) = some (.int .i64 (rd_T69 xs i).f0) ∧ w.cell? ⟨(ad.add (i.toNat * 4)).block, (ad.add (i.toNat * 4)).off + 1, none⟩ = some (.bool (rd_T69 xs i).f1) ∧ w.cell? ⟨(ad.add (i.toNat * 4)).block, (ad.add (i.toNat * 4)).off + 2, none⟩ = some (.int .i64 (rd_T69 xs i).f2) ∧ w.cell? ⟨(ad.add (i.toNat * 4)).block, (ad.add (i.toNat * 4)).off + 3, none⟩ = some (.string (rd_T69 xs i).f3) := by
  obtain ⟨ad, c, e, _, hK, hc0⟩ := Kd.C_get h z69 i h0 h1
  have hc : ∀ j u, c[j]? = some u → w.cell? (ad.add (i.toNat * 4 + j)) = some u := hc0
  obtain rfl := k69_open hK
  exact ⟨ad, e, hc 0 _ rfl, by rw [← add_field _ _ 1 (by omega)]; exact hc 1 _ rfl, by rw [← add_field _ _ 2 (by omega)]; exact hc 2 _ rfl, by rw [← add_field _ _ 3 (by omega)]; exact hc 3 _ rfl⟩

/-! #### struct type 25 -/
structure S25 where
  f0 : Int
  f1 : Int
def z25 : S25 := ⟨(0 : Int), (0 : Int)⟩
def k25 : Kd S25 := Kd.iso (Kd.pair (Kd.int .u64) (Kd.int .u32)) (fun x : S25 => (x.f0, x.f1))
theorem k25_open {w : World} {x : S25} {cs : List Value} (h : k25.K w x cs) : cs = [.int .u64 x.f0, .int .u32 x.f1] := by
  obtain ⟨_, _, rfl, rfl, rfl⟩ := h
  exact rfl
theorem k25_openM {w : World} {base : Nat} {ok : Nat → Prop} {x : S25} {cs : List Value} (h : k25.M w base ok x cs) : cs = [.int .u64 x.f0, .int .u32 x.f1] := by
  obtain ⟨_, _, rfl, rfl, rfl⟩ := h
  exact rfl
theorem k25_mk (w : World) (x : S25)  : k25.K w x [.int .u64 x.f0, .int .u32 x.f1] := ⟨[.int .u64 x.f0], [.int .u32 x.f1], rfl, rfl, rfl⟩
theorem k25_mkM (w : World) (base : Nat) (ok : Nat → Prop) (x : S25)  : k25.M w base ok x [.int .u64 x.f0, .int .u32 x.f1] := ⟨[.int .u64 x.f0], [.int .u32 x.f1], rfl, rfl, rfl⟩
/-! #### struct type 29 -/
structure S29 where
  f0 : S25
  f1 : (List S69)
  f2 : Int
def z29 : S29 := ⟨z25, ([] : List S69), (0 : Int)⟩
def k29 : Kd S29 := Kd.iso (Kd.pair k25 (Kd.pair (Kd.slice 69 k69) (Kd.int .u64))) (fun x : S29 => (x.f0, x.f1, x.f2))
theorem k29_open {w : World} {x : S29} {cs : List Value} (h : k29.K w x cs) : ∃ A2 c2, cs = [.int .u64 x.f0.f0, .int .u32 x.f0.f1, .slice A2 x.f1.length c2, .int .u64 x.f2] ∧ x.f1.length ≤ c2 ∧ k69.C w A2 x.f1.length x.f1 := by
  obtain ⟨_, _, rfl, s0, ⟨_, _, rfl, ⟨A2, c2, rfl, l2, g2⟩, rfl⟩⟩ := h
  obtain rfl := k25_open s0
  exact ⟨A2, c2, rfl, l2, g2⟩
theorem k29_openM {w : World} {base : Nat} {ok : Nat → Prop} {x : S29} {cs : List Value} (h : k29.M w base ok x cs) : ∃ v2, cs = [.int .u64 x.f0.f0, .int .u32 x.f0.f1, v2, .int .u64 x.f2] ∧ k69.R 69 w base ok v2 x.f1 := by
  obtain ⟨_, _, rfl, s0, ⟨_, _, rfl, ⟨v2, rfl, g2⟩, rfl⟩⟩ := h
  obtain rfl := k25_openM s0
  exact ⟨v2, rfl, g2⟩
theorem k29_mk (w : World) (x : S29) {A2 : Option Addr} {c2 : Nat} (l2 : x.f1.length ≤ c2) (g2 : k69.C w A2 x.f1.length x.f1) : k29.K w x [.int .u64 x.f0.f0, .int .u32 x.f0.f1, .slice A2 x.f1.length c2, .int .u64 x.f2] := ⟨[.int .u64 x.f0.f0, .int .u32 x.f0.f1], [.slice A2 x.f1.length c2, .int .u64 x.f2], rfl, (k25_mk w x.f0 ), ⟨[.slice A2 x.f1.length c2], [.int .u64 x.f2], rfl, ⟨A2, c2, rfl, l2, g2⟩, rfl⟩⟩
theorem k29_mkM (w : World) (base : Nat) (ok : Nat → Prop) (x : S29) {v2 : Value} (g2 : k69.R 69 w base ok v2 x.f1) : k29.M w base ok x [.int .u64 x.f0.f0, .int .u32 x.f0.f1, v2, .int .u64 x.f2] := ⟨[.int .u64 x.f0.f0, .int .u32 x.f0.f1], [v2, .int .u64 x.f2], rfl, (k25_mkM w base ok x.f0 ), ⟨[v2], [.int .u64 x.f2], rfl, ⟨v2, rfl, g2⟩, rfl⟩⟩
theorem k29_openF {W : World} {ok : Nat → Prop} {x : S29} {cs : List Value} (h : Kd.FK k29 W ok x cs) : ∃ A2 c2, cs = [.int .u64 x.f0.f0, .int .u32 x.f0.f1, .slice A2 x.f1.length c2, .int .u64 x.f2] ∧ x.f1.length ≤ c2 ∧ Kd.F k69 W ok A2 x.f1.length x.f1 := by
  obtain ⟨A2, c2, rfl, l2, _⟩ := k29_open (Kd.FK_now h)
  exact ⟨A2, c2, rfl, l2, (fun W' hW => by obtain ⟨A2_, c2_, he, l2_, g2_⟩ := k29_open (h W' hW); injection (Option.some.inj (show some (Value.slice A2 x.f1.length c2) = some (Value.slice A2_ x.f1.length c2_) from congrArg (fun l => l[2]?) he)) with ha_ _ _; rw [ha_]; exact g2_)⟩
theorem k29_mkF (W : World) (ok : Nat → Prop) (x : S29) {A2 : Option Addr} {c2 : Nat} (l2 : x.f1.length ≤ c2) (g2 : Kd.F k69 W ok A2 x.f1.length x.f1) : Kd.FK k29 W ok x [.int .u64 x.f0.f0, .int .u32 x.f0.f1, .slice A2 x.f1.length c2, .int .u64 x.f2] := fun W2 hW => k29_mk W2 x l2 (g2 W2 hW)
def rd_T29 (xs : List S29) (i : Int) : S29 := xs.getD i.toNat z29
theorem at_T29 {w : World} {A : Option Addr} {n : Nat} {xs : List S29} (h : Kd.C k29 w A n xs) (i : Int) (h0 : 0 ≤ i) (h1 : i < n) : ∃ ad A2 c2, A = some ad ∧ w.cell? (ad.add (i.toNat * 4)) = some (.int .u64 (rd_T29 xs i).f0.f0) ∧ w.cell? ⟨(ad.add (i.toNat * 4)).block, (ad.add (i.toNat * 4)).off + 1, none⟩ = some (.int .u32 (rd_T29 xs i).f0.f1) ∧ w.cell? ⟨(ad.add (i.toNat * 4)).block, (ad.add (i.toNat * 4)).off + 2, none⟩ = some (.slice A2 (rd_T29 xs i).f1.length c2) ∧ w.cell? ⟨(ad.add (i.toNat * 4)).block, (ad.add (i.toNat * 4)).off + 3, none⟩ = some (.int .u64 (rd_T29 xs i).f2) ∧ (rd_T29 xs i).f1.length ≤ c2 ∧ k69.C w A2 (rd_T29 xs i).f1.length (rd_T29 xs i).f1 := by
  obtain ⟨ad, c, e, _, hK, hc0⟩ := Kd.C_get h z29 i h0 h1
  have hc : ∀ j u, c[j]? = some u → w.cell? (ad.add (i.toNat * 4 + j)) = some u := hc0
  obtain ⟨A2, c2, rfl, l2, g2⟩ := k29_open hK
  exact ⟨ad, A2, c2, e, hc 0 _ rfl, by rw [← add_field _ _ 1 (by omega)]; exact hc 1 _ rfl, by rw [← add_field _ _ 2 (by omega)]; exact hc 2 _ rfl, by rw [← add_field _ _ 3 (by omega)]; exact hc 3 _ rfl, l2, g2⟩

end Go.Proofs.Ytacacigpendneaa.QV
/- Maps whose elements are taken as they lie (no memory behind them is looked at): what a block holds, as a function of keys. -/
namespace Go.Proofs.Ytacacigpendneaa.Mp
open Go Go.Maps Go.RowKit
open Go.ChangeMaps (setBlock heap_setBlock_same)
set_option linter.unusedVariables false
set_option linter.unusedSimpArgs false

/-- A key type whose values are told by α. -/
structure KeyTy (P : Program) (t : TypeId) (α : Type) where
  val : α → Value
  ok : α → Prop
  law : Keyed P t
  of : ∀ a, ok a → ∃ l, keyOf P t (val a) = some l
  inv : ∀ v l, keyOf P t v = some l → ∃ a, ok a ∧ v = val a
  inj : ∀ a b, val a = val b → a = b

/-- A list without repeats that lies in another one is no longer. -/
theorem nodup_le {β : Type} : ∀ {l L : List β}, l.Nodup → (∀ x ∈ l, x ∈ L) → l.length ≤ L.length
  | [], _, _, _ => by simp
  | x :: l, L, hn, hs => by
    classical
    obtain ⟨h1, h2⟩ := List.nodup_cons.1 hn
    have hx : x ∈ L := hs x (by simp)
    have h := nodup_le (L := L.erase x) h2 (fun y hy => by
      have hne : y ≠ x := fun e => h1 (by rw [← e]; exact hy)
      exact (List.mem_erase_of_ne hne).2 (hs y (by simp [hy])))
    rw [List.length_erase_of_mem hx] at h
    have := List.length_pos_of_mem hx
    simp only [List.length_cons]
    omega

section
variable {P : Program} {t : TypeId} {α : Type} (κ : KeyTy P t α)

noncomputable def KeyTy.lit (a : α) : Lit := (keyOf P t (κ.val a)).getD (.bool false)
theorem KeyTy.is {a : α} (h : κ.ok a) : keyOf P t (κ.val a) = some (κ.lit a) := by
  obtain ⟨l, hl⟩ := κ.of a h
  simp [KeyTy.lit, hl]
theorem KeyTy.isKey {a : α} (h : κ.ok a) : WideAt.IsKeyLit (κ.lit a) := κ.law.key (κ.is h)
theorem KeyTy.lit_inj {a b : α} (ha : κ.ok a) (hb : κ.ok b) (h : κ.lit a = κ.lit b) : a = b :=
  κ.inj _ _ (κ.law.inj (κ.is ha) (by rw [h]; exact κ.is hb))
theorem KeyTy.same {a b : α} (ha : κ.ok a) (hb : κ.ok b) [DecidableEq α] : (κ.lit a).sameKey (κ.lit b) = decide (a = b) := by
  by_cases h : a = b
  · subst h; rw [WideAt.sameKey_self (κ.isKey ha)]; simp
  · rw [sameKey_ne (fun e => h (κ.lit_inj ha hb e))]; simp [h]

/-- An element, as it lies. -/
def raw (v : Value) : Option (DataW Value × List MemPlace) := some (.held v, [])
theorem raw_inv {v : Value} {y : DataW Value × List MemPlace} (h : raw v = some y) : y = (.held v, []) := (Option.some.inj h).symm

/-- What the datum tells at each key. -/
def DIs (D : DataW Value) (f : α → Option Value) : Prop := IsMap D ∧ ∀ a, κ.ok a → ∀ z, D.atKey (κ.lit a) z = (f a).elim z .held
variable {κ}
theorem DIs.at_ {D : DataW Value} {f : α → Option Value} (h : DIs κ D f) {a : α} (ha : κ.ok a) (z : DataW Value) : D.atKey (κ.lit a) z = (f a).elim z .held := h.2 a ha z
theorem DIs.has_ {D : DataW Value} {f : α → Option Value} (h : DIs κ D f) {a : α} (ha : κ.ok a) : Maps.has D (κ.lit a) = (f a).isSome := by
  cases hf : f a with
  | none => exact has_false_of_atKey (fun z => by rw [h.at_ ha, hf]; rfl)
  | some v => exact has_true_of_atKey (y := .held v) (fun z => by rw [h.at_ ha, hf]; rfl)
theorem DIs.empty : DIs κ (.map []) (fun _ => none) := ⟨isMap_empty, fun a _ z => rfl⟩
section
variable [DecidableEq α]
def upd (f : α → Option Value) (a : α) (o : Option Value) : α → Option Value := fun b => if b = a then o else f b
theorem DIs.put_ {D : DataW Value} {f : α → Option Value} (h : DIs κ D f) {a : α} (ha : κ.ok a) (v : Value) : DIs κ (D.put (κ.lit a) (.held v)) (upd f a (some v)) := by
  refine ⟨h.1.put _ _, fun b hb z => ?_⟩
  by_cases e : b = a
  · subst e
    rw [atKey_put_same h.1 (κ.isKey ha)]; simp [upd]
  · rw [atKey_put_other (fun h' => e (κ.lit_inj hb ha h')), h.at_ hb]; simp [upd, e]
theorem DIs.del_ {D : DataW Value} {f : α → Option Value} (h : DIs κ D f) {a : α} (ha : κ.ok a) : DIs κ (D.del (κ.lit a)) (upd f a none) := by
  refine ⟨h.1.del _, fun b hb z => ?_⟩
  by_cases e : b = a
  · subst e
    rw [atKey_del_same]; simp [upd]
  · rw [atKey_del_other (fun h' => e (κ.lit_inj hb ha h')), h.at_ hb]; simp [upd, e]
end
theorem DIs.congr {D : DataW Value} {f g : α → Option Value} (h : DIs κ D f) (e : ∀ a, κ.ok a → f a = g a) : DIs κ D g := ⟨h.1, fun a ha z => by rw [h.at_ ha, e a ha]⟩
end

section
variable {P : Program} {t : TypeId} {α : Type}

/-- BLOCK b IS A MAP of at most n entries, told by f. -/
def MapIs (κ : KeyTy P t α) (w : World) (b n : Nat) (f : α → Option Value) : Prop := ∃ D, w.ownsMap P t raw b n D ∧ DIs κ D f
variable {κ : KeyTy P t α} {w w' : World} {b n : Nat} {f g : α → Option Value}

theorem MapIs.congr (h : MapIs κ w b n f) (e : ∀ a, κ.ok a → f a = g a) : MapIs κ w b n g := let ⟨D, h1, h2⟩ := h; ⟨D, h1, h2.congr e⟩
theorem MapIs.mono (h : MapIs κ w b n f) {m : Nat} (hm : n ≤ m) : MapIs κ w b m f := let ⟨D, h1, h2⟩ := h; ⟨D, h1.mono hm, h2⟩
theorem MapIs.lt (h : MapIs κ w b n f) : b < w.heap.size := let ⟨_, h1, _⟩ := h; h1.lt
theorem MapIs.made (w : World) : MapIs κ (w.alloc (.map #[] 0)) w.heap.size 0 (fun _ => none) := ⟨_, World.ownsMap_made _ _ _ _, DIs.empty⟩
theorem MapIs.at (h : MapIs κ w b n f) (e : w'.heap[b]? = w.heap[b]?) : MapIs κ w' b n f := by
  obtain ⟨D, ⟨es, clock, hb, hr⟩, h2⟩ := h
  exact ⟨D, ⟨es, clock, e.trans hb, hr⟩, h2⟩
theorem MapIs.below (h : MapIs κ w b n f) (hb : Below w.heap.size w w') : MapIs κ w' b n f := h.at (hb.block b h.lt)
/-- The bound is what is in it. -/
theorem MapIs.bound (h : MapIs κ w b n f) (L : List α) (hL : ∀ a, κ.ok a → f a ≠ none → a ∈ L) : MapIs κ w b L.length f := by
  obtain ⟨D, ⟨es, clock, hb, F, hs, rfl⟩, hD⟩ := h
  refine ⟨_, ⟨es, clock, hb, F, ?_, rfl⟩, hD⟩
  have hap := Maps.fit_apart κ.law F
  -- each entry's key is one of L
  have hk : ∀ x ∈ es.toList, ∃ a, a ∈ L ∧ κ.ok a ∧ (WideElems.rg P t raw x).1 = κ.lit a := by
    intro x hx
    obtain ⟨y, hy⟩ := F.reads x hx
    have hkey := WideElems.rd_key hy
    obtain ⟨a, ha, hv⟩ := κ.inv _ _ hkey
    have hl : y.1 = κ.lit a := by rw [hv, κ.is ha] at hkey; exact (Option.some.inj hkey).symm
    refine ⟨a, hL a ha (fun hn => ?_), ha, by rw [WideElems.rg_of hy, hl]⟩
    have hh := hD.has_ ha
    rw [hn] at hh
    have : Maps.has (DataW.map ((es.toList.map (WideElems.rg P t raw)).foldr DataW.insert [])) (κ.lit a) = true :=
      List.any_eq_true.2 ⟨WideElems.rg P t raw x, mem_sorted.2 (List.mem_map.2 ⟨x, hx, rfl⟩), by rw [WideElems.rg_of hy, hl]; exact WideAt.sameKey_self (κ.isKey ha)⟩
    rw [this] at hh
    cases hh
  have h2 : ((es.toList.map (WideElems.rg P t raw)).map (·.1)).Nodup := by
    rw [List.Nodup, List.pairwise_map]
    exact hap
  have h3 : ∀ l ∈ (es.toList.map (WideElems.rg P t raw)).map (·.1), l ∈ L.map κ.lit := by
    intro l hl
    obtain ⟨p, hp, rfl⟩ := List.mem_map.1 hl
    obtain ⟨x, hx, rfl⟩ := List.mem_map.1 hp
    obtain ⟨a, ha, _, e⟩ := hk x hx
    exact List.mem_map.2 ⟨a, ha, e.symm⟩
  have h4 := nodup_le h2 h3
  simpa using h4

theorem MapIs.look {tm e : TypeId} (h : MapIs κ w b n f) (ht : P.underlying tm = some (.map t e)) {z : Value} (hz : (zeroValue e).run P w = .ok z w) {a : α} (ha : κ.ok a) :
    (Instr.lookup tm (.map (some b)) (κ.val a) true).run P w = .ok (.tuple #[(f a).getD z, .bool (f a).isSome]) w := by
  obtain ⟨D, h1, h2⟩ := h
  obtain ⟨v, ps, hr, hv⟩ := h1.look_ok κ.law ht hz (zd := .held z) (zp := []) rfl (κ.is ha)
  rw [h2.has_ ha] at hr
  have := raw_inv hv
  rw [h2.at_ ha] at this
  cases hf : f a with
  | none => rw [hf] at this hr; cases this; exact hr
  | some u => rw [hf] at this hr; cases this; exact hr
theorem MapIs.look1 {tm e : TypeId} (h : MapIs κ w b n f) (ht : P.underlying tm = some (.map t e)) {z : Value} (hz : (zeroValue e).run P w = .ok z w) {a : α} (ha : κ.ok a) :
    (Instr.lookup tm (.map (some b)) (κ.val a) false).run P w = .ok ((f a).getD z) w := by
  obtain ⟨D, h1, h2⟩ := h
  obtain ⟨v, ps, hr, hv⟩ := h1.lookup κ.law ht hz (zd := .held z) (zp := []) rfl (κ.is ha)
  have := raw_inv hv
  rw [h2.at_ ha] at this
  cases hf : f a with
  | none => rw [hf] at this; cases this; exact hr
  | some u => rw [hf] at this; cases this; exact hr
theorem MapIs.put_ [DecidableEq α] {tm e : TypeId} (h : MapIs κ w b n f) (ht : P.underlying tm = some (.map t e)) (hn : n < maxLen) {a : α} (ha : κ.ok a) (v : Value) :
    ∃ w', (Instr.mapUpdate tm (.map (some b)) (κ.val a) v).run P w = .ok () w' ∧ MapIs κ w' b (n + 1) (upd f a (some v)) ∧ w.mapTurned w' b := by
  obtain ⟨D, h1, h2⟩ := h
  obtain ⟨w', hr, h3, h4⟩ := h1.store κ.law ht hn (κ.is ha) (hv := (rfl : raw v = some (.held v, [])))
  exact ⟨w', hr, ⟨_, h3, h2.put_ ha v⟩, h4⟩

/-- 'range m' under way: which keys are still to come, how many. -/
def RangeIs (κ : KeyTy P t α) (w : World) (b r n : Nat) (f : α → Option Value) (todo : α → Bool) (cnt : Nat) : Prop :=
  ∃ D left, w.ranges P t raw b r n D left cnt ∧ DIs κ D f ∧ ∀ a, κ.ok a → left (κ.lit a) = todo a
variable {r cnt : Nat} {todo : α → Bool}
theorem RangeIs.map (h : RangeIs κ w b r n f todo cnt) : MapIs κ w b n f := let ⟨D, left, h1, h2, _⟩ := h; ⟨D, h1.owns, h2⟩
theorem RangeIs.left_eq (h : RangeIs κ w b r n f todo cnt) : w.rangeLeft b r = cnt := let ⟨D, left, h1, _⟩ := h; h1.left_eq
theorem RangeIs.kept {row : Option Nat} (h : RangeIs κ w b r n f todo cnt) (hg : w.grownBy w' row) (hb' : some b ≠ row) (hr' : some r ≠ row) : RangeIs κ w' b r n f todo cnt := let ⟨D, left, h1, h2⟩ := h; ⟨D, left, h1.kept hg hb' hr', h2⟩
theorem RangeIs.lt (h : RangeIs κ w b r n f todo cnt) : r < w.heap.size := let ⟨D, left, h1, _⟩ := h; h1.lt
theorem RangeIs.ne (h : RangeIs κ w b r n f todo cnt) : r ≠ b := let ⟨D, left, h1, _⟩ := h; h1.ne
theorem RangeIs.at (h : RangeIs κ w b r n f todo cnt) (e1 : w'.heap[b]? = w.heap[b]?) (e2 : w'.heap[r]? = w.heap[r]?) : RangeIs κ w' b r n f todo cnt := by
  obtain ⟨D, left, ⟨es, clock, since, seen, c0, hb, F, hs, hD, hr, rest⟩, h2⟩ := h
  exact ⟨D, left, ⟨es, clock, since, seen, c0, e1.trans hb, F, hs, hD, e2.trans hr, rest⟩, h2⟩
theorem RangeIs.congr (h : RangeIs κ w b r n f todo cnt) (e : ∀ a, κ.ok a → f a = g a) : RangeIs κ w b r n g todo cnt := let ⟨D, left, h1, h2, h3⟩ := h; ⟨D, left, h1, h2.congr e, h3⟩
theorem MapIs.range {tm e : TypeId} (h : MapIs κ w b n f) (ht : P.underlying tm = some (.map t e)) :
    ∃ w', (Instr.range tm (.map (some b))).run P w = .ok (.pointer (some ⟨w.heap.size, 0, none⟩)) w' ∧ (∃ cnt, cnt ≤ n ∧ RangeIs κ w' b w.heap.size n f (fun a => (f a).isSome) cnt) ∧ w.grownBy w' none ∧ w'.heap.size = w.heap.size + 1 := by
  obtain ⟨D, h1, h2⟩ := h
  obtain ⟨w', hr, h3, h4, h5⟩ := h1.range κ.law ht
  exact ⟨w', hr, ⟨_, h1.size_le, D, _, h3, h2, fun a ha => h2.has_ ha⟩, h4, h5⟩
theorem RangeIs.next [DecidableEq α] (h : RangeIs κ w b r n f todo cnt) (ty : TypeId) :
    (cnt = 0 ∧ (∀ a, κ.ok a → todo a = false) ∧ (Instr.next (.pointer (some ⟨r, 0, none⟩)) false ty).run P w = .ok (.tuple #[.bool false]) w) ∨
    ∃ a v w' cnt', κ.ok a ∧ todo a = true ∧ f a = some v ∧ (Instr.next (.pointer (some ⟨r, 0, none⟩)) false ty).run P w = .ok (.tuple #[.bool true, κ.val a, v]) w' ∧
      RangeIs κ w' b r n f (fun z => todo z && !decide (z = a)) cnt' ∧ cnt' < cnt ∧ w.grownBy w' (some r) ∧ w'.heap.size = w.heap.size ∧ (Instr.entry (.pointer (some ⟨r, 0, none⟩))).run P w' = .ok (.tuple #[κ.val a, v]) w' := by
  obtain ⟨D, left, h1, h2, h3⟩ := h
  rcases h1.next κ.law ty with ⟨h0, hl, hrun⟩ | ⟨key, v, kl, y, w', cnt', hkey, hlk, hv, hat, hrun, hrg, hlt, hgr, hsz, hen⟩
  · exact .inl ⟨h0, fun a ha => by rw [← h3 a ha]; exact hl _, hrun⟩
  · obtain ⟨a, ha, rfl⟩ := κ.inv _ _ hkey
    obtain rfl : κ.lit a = kl := by rw [κ.is ha] at hkey; exact Option.some.inj hkey
    have hy := raw_inv hv
    subst hy
    refine .inr ⟨a, v, w', cnt', ha, by rw [← h3 a ha]; exact hlk, ?_, hrun, ⟨D, _, hrg, h2, fun z hz => by rw [h3 z hz, κ.same hz ha]⟩, hlt, hgr, hsz, hen⟩
    have := hat .nil
    rw [h2.at_ ha] at this
    cases hf : f a with
    | none => rw [hf] at this; cases this
    | some u => rw [hf] at this; simp at this; rw [this]
end
section
open Go.WideElems (Fit rd rg rg_of rd_key rd_mk)
variable {P : Program} {t : TypeId} {α : Type} {κ : KeyTy P t α} {w w' : World} {b n r cnt : Nat} {f : α → Option Value} {todo : α → Bool}
theorem RangeIs.drop [DecidableEq α] {tm e : TypeId} (h : RangeIs κ w b r n f todo cnt) (ht : P.underlying tm = some (.map t e)) {a : α} (ha : κ.ok a) (ty : TypeId) :
    ∃ w' cnt', (Builtin.delete_ #[tm, t] ty #[.map (some b), κ.val a]).run P w = .ok (.tuple #[]) w' ∧ RangeIs κ w' b r n (upd f a none) (fun z => todo z && !decide (z = a)) cnt' ∧ cnt' ≤ cnt ∧ w.mapTurned w' b := by
  obtain ⟨D, left, h1, h2, h3⟩ := h
  obtain ⟨w', cnt', hr, h4, h5, h6⟩ := h1.drop κ.law ht (κ.is ha) ty
  exact ⟨w', cnt', hr, ⟨_, _, h4, h2.del_ ha, fun z hz => by rw [h3 z hz, κ.same hz ha]⟩, h5, h6⟩
theorem MapIs.drop [DecidableEq α] {tm e : TypeId} (h : MapIs κ w b n f) (ht : P.underlying tm = some (.map t e)) {a : α} (ha : κ.ok a) (ty : TypeId) :
    ∃ w', (Builtin.delete_ #[tm, t] ty #[.map (some b), κ.val a]).run P w = .ok (.tuple #[]) w' ∧ MapIs κ w' b n (upd f a none) ∧ w.mapTurned w' b := by
  obtain ⟨D, h1, h2⟩ := h
  obtain ⟨w', hr, h3, h4⟩ := h1.drop κ.law ht (κ.is ha) ty
  exact ⟨w', hr, ⟨_, h3, h2.del_ ha⟩, h4⟩
/-- A store at a key that is there, into the map that is ranged over. -/
theorem RangeIs.put_ [DecidableEq α] {tm e : TypeId} (h : RangeIs κ w b r n f todo cnt) (ht : P.underlying tm = some (.map t e)) (hn : n < maxLen) {a : α} (ha : κ.ok a) (hin : (f a).isSome = true) (v : Value) :
    ∃ w', (Instr.mapUpdate tm (.map (some b)) (κ.val a) v).run P w = .ok () w' ∧ RangeIs κ w' b r n (upd f a (some v)) todo cnt ∧ w.mapTurned w' b := by
  obtain ⟨D, left, h1, h2, h3⟩ := h
  have hne := h1.ne
  have hkey := κ.is ha
  have hh := h2.has_ ha
  rw [hin] at hh
  obtain ⟨w1, hr1, hown1, _⟩ := h1.owns.store κ.law ht hn hkey (hv := (rfl : raw v = some (.held v, [])))
  obtain ⟨es, clock, since, seen, c0, hb, F, hs, rfl, hr, hold, hcnt, hl1, hl2, hsc, hsk⟩ := h1
  rcases κ.law.find w hkey es.toList F.keys with ⟨_, f2⟩ | ⟨j, e0, f1, f2, f3⟩
  · exfalso
    obtain ⟨p, hp, hpk⟩ := List.any_eq_true.1 hh
    obtain ⟨x, hx, rfl⟩ := List.mem_map.1 (mem_sorted.1 hp)
    obtain ⟨y, hy⟩ := F.reads x hx
    have e1 := WideAt.sameKey_eq hpk
    rw [rg_of hy] at e1
    have hxk := rd_key hy
    rw [e1] at hxk
    exact f2 x hx (κ.law.inj hxk hkey)
  · have hrun : (Instr.mapUpdate tm (.map (some b)) (κ.val a) v).run P w = .ok () (setBlock w b (.map (es.modify j fun e' => { e' with key := κ.val a, val := v }) clock)) := by
      have hj : es[j]? = some e0 := by simpa using f2
      simp [Instr.mapUpdate, run_underlying ht, MapKept.run_getObj_map hb, κ.law.check w false hkey, f1, hj, f3, κ.law.stays w hkey, MapKept.run_setObj_map _ hb, Result.andThen, setBlock]
    obtain rfl : w1 = setBlock w b (.map (es.modify j fun e' => { e' with key := κ.val a, val := v }) clock) := by
      rw [hr1] at hrun
      exact (Result.ok.inj hrun).2
    have hlist : (es.modify j (fun e' => { e' with key := κ.val a, val := v })).toList = es.toList.set j { e0 with key := κ.val a, val := v } := by rw [Array.toList_modify, ChangeMaps.modify_eq_set _ _ _ _ f2]
    have hjl : j < es.toList.length := (List.getElem?_eq_some_iff.1 f2).1
    have hej : es.toList[j] = e0 := (List.getElem?_eq_some_iff.1 f2).2
    -- each entry has one of before with its stamp and its key, and the other way round
    have back : ∀ x ∈ es.toList.set j { e0 with key := κ.val a, val := v }, ∃ y ∈ es.toList, y.key = x.key ∧ y.born = x.born := by
      intro x hx
      obtain ⟨i, hi, rfl⟩ := List.getElem_of_mem hx
      rw [List.length_set] at hi
      refine ⟨es.toList[i], List.getElem_mem hi, ?_⟩
      rw [List.getElem_set]
      split
      · rename_i e; subst e; rw [hej]; exact ⟨f3, rfl⟩
      · exact ⟨rfl, rfl⟩
    have forth : ∀ y ∈ es.toList, ∃ x ∈ es.toList.set j { e0 with key := κ.val a, val := v }, y.key = x.key ∧ y.born = x.born := by
      intro y hy
      obtain ⟨i, hi, rfl⟩ := List.getElem_of_mem hy
      refine ⟨(es.toList.set j { e0 with key := κ.val a, val := v })[i]'(by rw [List.length_set]; exact hi), List.getElem_mem _, ?_⟩
      rw [List.getElem_set]
      split
      · rename_i e; subst e; rw [hej]; exact ⟨f3, rfl⟩
      · exact ⟨rfl, rfl⟩
    have hbk : (setBlock w b (.map (es.modify j fun e' => { e' with key := κ.val a, val := v }) clock)).heap[b]? = some (.map (es.modify j fun e' => { e' with key := κ.val a, val := v }) clock) := heap_setBlock_same hb _
    obtain ⟨es2, clock2, hb2, F2, hs2, hD2⟩ := hown1
    rw [hbk] at hb2
    obtain ⟨rfl, rfl⟩ : _ = es2 ∧ clock = clock2 := by simpa using hb2
    -- the keys read alike
    have rgk : ∀ x ∈ es.toList.set j { e0 with key := κ.val a, val := v }, ∀ y ∈ es.toList, y.key = x.key → (rg P t raw x).1 = (rg P t raw y).1 := by
      intro x hx y hy e
      obtain ⟨zx, hzx⟩ := F2.reads x (by rw [hlist]; exact hx)
      obtain ⟨zy, hzy⟩ := F.reads y hy
      have k1 := rd_key hzx
      have k2 := rd_key hzy
      rw [e, k1] at k2
      rw [rg_of hzx, rg_of hzy]
      exact Option.some.inj k2
    refine ⟨_, hrun, ⟨_, left, ⟨_, clock, since, seen, c0, hbk, F2, by simpa using hs, hD2, (ChangeMaps.heap_setBlock_other hb _ hne).trans hr, ?_, ?_, ?_, ?_, hsc, hsk⟩, h2.put_ ha v, h3⟩, ⟨es, clock, _, clock, hb, rfl⟩⟩
    · intro x hx
      rw [hlist] at hx
      obtain ⟨y, hy, _, e2⟩ := back x hx
      rw [← e2]; exact hold y hy
    · rw [← hcnt]
      have e1 : ∀ a : Array MapEntry, (leftOf a seen).size = ((a.toList.map (·.born)).filter fun e => !seen.contains e).length := fun a => by
        unfold leftOf
        rw [← Array.length_toList, Array.toList_filter, List.filter_map, List.length_map]
        rfl
      rw [e1, e1, hlist]
      have : (es.toList.set j { e0 with key := κ.val a, val := v }).map (·.born) = es.toList.map (·.born) := by
        rw [List.map_set]
        refine List.ext_getElem (by simp) (fun i h1 h2 => ?_)
        rw [List.getElem_set]
        split
        · rename_i e; subst e; simp [hej]
        · rfl
      rw [this]
    · intro x hx
      rw [hlist] at hx
      obtain ⟨y, hy, e1, e2⟩ := back x hx
      rw [rgk x hx y hy e1, hl1 y hy, e2]
    · intro kl hkl
      obtain ⟨y, hy, e⟩ := hl2 kl hkl
      obtain ⟨x, hx, e1, e2⟩ := forth y hy
      exact ⟨x, by rw [hlist]; exact hx, (rgk x hx y hy e1).trans e⟩
theorem MapIs.len {tm e : TypeId} (h : MapIs κ w b n f) (ht : P.underlying tm = some (.map t e)) (ty : TypeId) : ∃ m : Nat, m ≤ n ∧ (Builtin.len_ #[tm] ty #[.map (some b)]).run P w = .ok (.int .i64 m) w ∧
    ∀ L : List α, L.Nodup → (∀ a ∈ L, κ.ok a) → (∀ a, κ.ok a → ((f a).isSome = true ↔ a ∈ L)) → m = L.length := by
  obtain ⟨D, h1, h2⟩ := h
  refine ⟨_, h1.size_le, h1.len ht ty, fun L hn hok hL => ?_⟩
  refine Nat.le_antisymm ?_ ?_
  · have hb : MapIs κ w b n f := ⟨D, h1, h2⟩
    obtain ⟨D', h1', h2'⟩ := hb.bound L (fun a ha hne => (hL a ha).1 (by cases hf : f a with | none => exact absurd hf hne | some _ => rfl))
    have e1 := h1'.size_le
    obtain ⟨es, clock, hbk, F, hs, rfl⟩ := h1
    obtain ⟨es', clock', hbk', F', hs', rfl⟩ := h1'
    rw [hbk] at hbk'
    obtain ⟨rfl, rfl⟩ : es = es' ∧ clock = clock' := by simpa using hbk'
    exact e1
  · obtain ⟨es, clock, hbk, F, hs, rfl⟩ := h1
    have e2 : Maps.size (DataW.map ((es.toList.map (rg P t raw)).foldr DataW.insert [])) = ((es.toList.map (rg P t raw)).map (·.1)).length := by simp [Maps.size, length_sorted]
    rw [e2, ← List.length_map (f := κ.lit)]
    refine nodup_le ?_ (fun l hl => ?_)
    · rw [List.Nodup, List.pairwise_map]
      exact hn.imp_of_mem (fun {a c} ha hc hne e => hne (κ.lit_inj (hok a ha) (hok c hc) e))
    · obtain ⟨a, ha, rfl⟩ := List.mem_map.1 hl
      have hh := h2.has_ (hok a ha)
      rw [(hL a (hok a ha)).2 ha] at hh
      obtain ⟨p, hp, hpk⟩ := List.any_eq_true.1 hh
      exact List.mem_map.2 ⟨p, mem_sorted.1 hp, WideAt.sameKey_eq hpk⟩
end

/-! ### at the operation -/
section
variable {P : Program} {t : TypeId} {α : Type} {κ : KeyTy P t α} (w : World) {ops : Array Oper} {rest : List Oper} {o : Oper} {act : Act} {Q : Exit → Act → World → Prop} {b n r cnt : Nat} {f : α → Option Value} {todo : α → Bool}
theorem wpList_drop_range [DecidableEq α] (hg : o.guard = none) (m x : Operand) (tm : TypeId) (hop : o.op = Op.call { callee := Callee.builtin Builtin.delete, args := #[m, x], argTypes := #[tm, t] }) (e : TypeId) (ht : P.underlying tm = some (.map t e)) (hm : act.eval m = .map (some b)) (h : RangeIs κ w b r n f todo cnt) (a : α) (ha : κ.ok a) (hx : act.eval x = κ.val a)
    (hK : ∀ w' cnt', RangeIs κ w' b r n (upd f a none) (fun z => todo z && !decide (z = a)) cnt' → cnt' ≤ cnt → w.mapTurned w' b → wpList P ops Q rest (act.put o.dst (.tuple #[])) w') : wpList P ops Q (o :: rest) act w := by
  refine wpList_plain hg fun K' hK' => ?_
  obtain ⟨w', cnt', hr, r1, r2, r3⟩ := h.drop ht ha o.type
  unfold Oper.wp
  simp [execOp, hop, resolve, invoke, builtin, hm, hx, hr, Result.andThen]
  exact hK' _ _ (hK w' cnt' r1 r2 r3)
theorem wpList_range_map (hg : o.guard = none) (m : Operand) (tm : TypeId) (hop : o.op = Op.range tm m) (e : TypeId) (ht : P.underlying tm = some (.map t e)) (hm : act.eval m = .map (some b)) (h : MapIs κ w b n f)
    (hK : ∀ w' cnt, RangeIs κ w' b w.heap.size n f (fun a => (f a).isSome) cnt → cnt ≤ n → w.grownBy w' none → w'.heap.size = w.heap.size + 1 → wpList P ops Q rest (act.put o.dst (.pointer (some ⟨w.heap.size, 0, none⟩))) w') : wpList P ops Q (o :: rest) act w := by
  refine wpList_plain hg fun K' hK' => ?_
  obtain ⟨w', hr, ⟨cnt, hc, h1⟩, h2, h3⟩ := h.range ht
  unfold Oper.wp
  simp [execOp, hop, hm, hr, Result.andThen]
  exact hK' _ _ (hK w' cnt h1 hc h2 h3)
theorem wpList_next_map [DecidableEq α] (hg : o.guard = none) (it : Operand) (hop : o.op = Op.next it false) (hit : act.eval it = .pointer (some ⟨r, 0, none⟩)) (h : RangeIs κ w b r n f todo cnt)
    (hDone : cnt = 0 → (∀ a, κ.ok a → todo a = false) → wpList P ops Q rest (act.put o.dst (.tuple #[.bool false])) w)
    (hMore : ∀ (a : α) (v : Value) (w' : World) (cnt' : Nat), κ.ok a → todo a = true → f a = some v → RangeIs κ w' b r n f (fun z => todo z && !decide (z = a)) cnt' → cnt' < cnt → w.grownBy w' (some r) → w'.heap.size = w.heap.size →
      (Instr.entry (.pointer (some ⟨r, 0, none⟩))).run P w' = .ok (.tuple #[κ.val a, v]) w' → wpList P ops Q rest (act.put o.dst (.tuple #[.bool true, κ.val a, v])) w') : wpList P ops Q (o :: rest) act w := by
  refine wpList_plain hg fun K' hK' => ?_
  unfold Oper.wp
  rcases h.next o.type with ⟨h0, hl, hrun⟩ | ⟨a, v, w', cnt', ha, htd, hf, hrun, hrg, hlt, hgr, hsz, hen⟩
  · simp [execOp, hop, hit, hrun, Result.andThen]
    exact hK' _ _ (hDone h0 hl)
  · simp [execOp, hop, hit, hrun, Result.andThen]
    exact hK' _ _ (hMore a v w' cnt' ha htd hf hrg hlt hgr hsz hen)
end
section
variable {F : Fence} {nn : Nat} {P : Program} {t : TypeId} {α : Type} {κ : KeyTy P t α} (w : World) {ops : Array Oper} {rest : List Oper} {o : Oper} {act : Act} {Q : Exit → Act → World → Prop} {b n r cnt : Nat} {f : α → Option Value} {todo : α → Bool}
theorem wpListIn_range_map (hg : o.guard = none) (m : Operand) (tm : TypeId) (hop : o.op = Op.range tm m) (e : TypeId) (ht : P.underlying tm = some (.map t e)) (hm : act.eval m = .map (some b)) (h : MapIs κ w b n f)
    (hK : ∀ w' cnt, RangeIs κ w' b w.heap.size n f (fun a => (f a).isSome) cnt → cnt ≤ n → w.grownBy w' none → w'.heap.size = w.heap.size + 1 → wpListIn F nn P ops Q rest (act.put o.dst (.pointer (some ⟨w.heap.size, 0, none⟩))) w') : wpListIn F nn P ops Q (o :: rest) act w := by
  refine wpListIn_plain hg fun K' hK' => ?_
  obtain ⟨w', hr, ⟨cnt, hc, h1⟩, h2, h3⟩ := h.range ht
  unfold Oper.wpIn
  refine ⟨by simp [Oper.about, hop], ?_⟩
  rw [Oper.semAt_plain F _ _ (by rw [hop]; intro c hc'; cases hc')]
  simp [execOp, hop, hm, hr, Result.andThen]
  exact hK' _ _ (hK w' cnt h1 hc h2 h3)
theorem wpListIn_next_map [DecidableEq α] (hg : o.guard = none) (it : Operand) (hop : o.op = Op.next it false) (hit : act.eval it = .pointer (some ⟨r, 0, none⟩)) (h : RangeIs κ w b r n f todo cnt)
    (hDone : cnt = 0 → (∀ a, κ.ok a → todo a = false) → wpListIn F nn P ops Q rest (act.put o.dst (.tuple #[.bool false])) w)
    (hMore : ∀ (a : α) (v : Value) (w' : World) (cnt' : Nat), κ.ok a → todo a = true → f a = some v → RangeIs κ w' b r n f (fun z => todo z && !decide (z = a)) cnt' → cnt' < cnt → w.grownBy w' (some r) → w'.heap.size = w.heap.size →
      (Instr.entry (.pointer (some ⟨r, 0, none⟩))).run P w' = .ok (.tuple #[κ.val a, v]) w' → wpListIn F nn P ops Q rest (act.put o.dst (.tuple #[.bool true, κ.val a, v])) w') : wpListIn F nn P ops Q (o :: rest) act w := by
  refine wpListIn_plain hg fun K' hK' => ?_
  unfold Oper.wpIn
  refine ⟨by simp [Oper.about, hop], ?_⟩
  rw [Oper.semAt_plain F _ _ (by rw [hop]; intro c hc'; cases hc')]
  rcases h.next o.type with ⟨h0, hl, hrun⟩ | ⟨a, v, w', cnt', ha, htd, hf, hrun, hrg, hlt, hgr, hsz, hen⟩
  · simp [execOp, hop, hit, hrun, Result.andThen]
    exact hK' _ _ (hDone h0 hl)
  · simp [execOp, hop, hit, hrun, Result.andThen]
    exact hK' _ _ (hMore a v w' cnt' ha htd hf hrg hlt hgr hsz hen)
end
end Go.Proofs.Ytacacigpendneaa.Mp
/- Maps keyed by names (api.RowId) whose elements are versions: what a block holds, as a function of names. -/
namespace Go.Proofs.Ytacacigpendneaa.QV
open Go.RowKit Go.Maps Go.Proofs.YtacacigpendneaaW.PrintWords
set_option linter.unusedVariables false
set_option linter.unusedSimpArgs false
set_option maxRecDepth 100000
abbrev tNm : Nat := 25
theorem laidOut : laidOutB Try.prog = true := by kernel_rfl
theorem rowNm : (tNm : TypeId) < Try.prog.types.size := of_decide_eq_true (by kernel_rfl)
theorem wideNm : (match Try.prog.underlying tNm with | some (.array _ _) | some (.struct _) => true | _ => false) = true := by rw [show Try.prog.underlying tNm = _ from Try.underlying25]
theorem lawNm : Keyed Try.prog tNm := Keyed.of_law (deep_law_laid laidOut (m := 2) (by omega) rowNm (by kernel_rfl) wideNm)
abbrev Nm := S25
def Nm.val (k : Nm) : Value := .agg #[.int .u64 k.f0, .int .u32 k.f1]
def Nok (k : Nm) : Prop := (Lit.int .u64 k.f0).wf = true ∧ (Lit.int .u32 k.f1).wf = true
theorem nm_keyType : Try.prog.keyType tNm = true := by kernel_rfl
theorem nm_cells : Try.prog.cellsOf tNm = 2 := by kernel_rfl
theorem nm_c0 : Try.prog.cellsOf 22 = 1 := by kernel_rfl
theorem nm_c1 : Try.prog.cellsOf 23 = 1 := by kernel_rfl
theorem nm_size : ∃ n, Try.prog.types.size = n + 2 := ⟨Try.prog.types.size - 2, by have := rowNm; unfold tNm at this; omega⟩
theorem keyOf_nm (k : Nm) (h : Nok k) : ∃ l, keyOf Try.prog tNm k.val = some l := by
  obtain ⟨n, hn⟩ := nm_size
  have hu : Try.prog.underlying tNm = _ := Try.underlying25
  have hf : (k.val).formed Try.prog tNm = true := by simp [Value.formed, Nm.val, hu, nm_cells]
  have hl : Try.prog.keyLits (Try.prog.types.size + 1) tNm k.val.cells.toList = some [.int .u64 k.f0, .int .u32 k.f1] := by
    rw [hn]
    simp [Program.keyLits, hu, Nm.val, Value.cells, nm_cells, nm_c0, nm_c1, Try.underlying22, Try.underlying23, h.1, h.2]
  exact ⟨_, by simp only [keyOf, hu, nm_keyType, hf, hl]; rfl⟩
theorem keyOf_nm_inv {v : Value} {l : Lit} (h : keyOf Try.prog tNm v = some l) : ∃ k : Nm, Nok k ∧ v = k.val := by
  obtain ⟨n, hn⟩ := nm_size
  have hu : Try.prog.underlying tNm = _ := Try.underlying25
  simp only [keyOf, hu, nm_keyType, Bool.true_and] at h
  split at h
  · rename_i hf
    obtain ⟨ls, hls, _⟩ := Option.map_eq_some_iff.1 h
    cases v with
    | agg cs =>
      simp [Value.formed, hu, nm_cells] at hf
      obtain ⟨cs⟩ := cs
      match cs, hf with
      | [a, b], _ =>
        rw [hn] at hls
        unfold Program.keyLits at hls
        rw [hu] at hls
        simp [Value.cells, nm_cells, nm_c0, nm_c1] at hls
        simp only [Option.bind_eq_some_iff] at hls
        obtain ⟨la, hla, hr⟩ := hls
        simp only [Function.comp, Option.map_eq_some_iff, Option.bind_eq_some_iff] at hr
        obtain ⟨_, ⟨_, ⟨lb, hlb, _⟩, _⟩, _⟩ := hr
        obtain ⟨x, hx, rfl⟩ := keyLits_int' Try.underlying22 hla
        obtain ⟨y, hy, rfl⟩ := keyLits_int' Try.underlying23 hlb
        obtain rfl : a = _ := by simpa using hx
        obtain rfl : b = _ := by simpa using hy
        simp [Program.keyLits, Try.underlying22] at hla
        simp [Program.keyLits, Try.underlying23] at hlb
        exact ⟨⟨x, y⟩, ⟨hla, hlb⟩, rfl⟩
    | _ => simp [Value.formed, hu] at hf
  · cases h
theorem Nm.ext' {a b : Nm} (h0 : a.f0 = b.f0) (h1 : a.f1 = b.f1) : a = b := by
  cases a; cases b; simp only at h0 h1; rw [h0, h1]
instance : DecidableEq Nm := fun a b => if h : a.f0 = b.f0 ∧ a.f1 = b.f1 then isTrue (Nm.ext' h.1 h.2) else isFalse (fun e => h (by rw [e]; exact ⟨rfl, rfl⟩))
theorem Nm.val_inj (a b : Nm) (h : a.val = b.val) : a = b := by
  simp only [Nm.val] at h
  injection h with h
  simp at h
  exact Nm.ext' h.1 h.2
def nmK : Mp.KeyTy Try.prog tNm Nm := ⟨Nm.val, Nok, lawNm, keyOf_nm, fun v l h => keyOf_nm_inv h, Nm.val_inj⟩
theorem nmK_val (k : Nm) : nmK.val k = .agg #[.int .u64 k.f0, .int .u32 k.f1] := rfl
abbrev Ver := S29
abbrev kVer : Kd Ver := k29
abbrev kS : Kd S69 := k69
abbrev tS : Nat := 69
abbrev tVer : Nat := 29
abbrev tMap : Nat := 74
/-- The value u is the version x, in world w. -/
def VerAt (w : World) (u : Value) (x : Ver) : Prop := ∃ A c, u = .agg #[.int .u64 x.f0.f0, .int .u32 x.f0.f1, .slice A x.f1.length c, .int .u64 x.f2] ∧ x.f1.length ≤ c ∧ kS.C w A x.f1.length x.f1
theorem VerAt.below {w w' : World} {u : Value} {x : Ver} (h : VerAt w u x) (hb : Below w.heap.size w w') : VerAt w' u x := let ⟨A, c, h1, h2, h3⟩ := h; ⟨A, c, h1, h2, Kd.C_below h3 hb⟩
/-- The elements that f has are the versions that F has. -/
def FIs (w : World) (f : Nm → Option Value) (F : Nm → Option Ver) : Prop := ∀ k, Nok k → (F k = none ∧ f k = none) ∨ ∃ u x, f k = some u ∧ F k = some x ∧ VerAt w u x
theorem FIs.below {w w' : World} {f : Nm → Option Value} {F : Nm → Option Ver} (h : FIs w f F) (hb : Below w.heap.size w w') : FIs w' f F := fun k hk => (h k hk).imp id (fun ⟨u, x, h1, h2, h3⟩ => ⟨u, x, h1, h2, h3.below hb⟩)
theorem FIs.some_ {w : World} {f : Nm → Option Value} {F : Nm → Option Ver} (h : FIs w f F) {k : Nm} (hk : Nok k) : (f k).isSome = (F k).isSome := by
  rcases h k hk with ⟨h1, h2⟩ | ⟨u, x, h1, h2, _⟩
  · rw [h1, h2]; rfl
  · rw [h1, h2]; rfl
theorem FIs.get {w : World} {f : Nm → Option Value} {F : Nm → Option Ver} (h : FIs w f F) {k : Nm} (hk : Nok k) {u : Value} (hu : f k = some u) : ∃ x, F k = some x ∧ VerAt w u x := by
  rcases h k hk with ⟨h1, h2⟩ | ⟨u', x, h1, h2, h3⟩
  · rw [h2] at hu; cases hu
  · rw [h1] at hu; cases hu; exact ⟨x, h2, h3⟩
def updV (F : Nm → Option Ver) (k : Nm) (o : Option Ver) : Nm → Option Ver := fun z => if z = k then o else F z
theorem FIs.upd_ {w : World} {f : Nm → Option Value} {F : Nm → Option Ver} (h : FIs w f F) (k : Nm) {u : Value} {x : Ver} (hx : VerAt w u x) : FIs w (Mp.upd f k (some u)) (updV F k (some x)) := fun z hz => by
  by_cases e : z = k
  · subst e; exact .inr ⟨u, x, by simp [Mp.upd], by simp [updV], hx⟩
  · have e1 : Mp.upd f k (some u) z = f z := by simp [Mp.upd, e]
    have e2 : updV F k (some x) z = F z := by simp [updV, e]
    rw [e1, e2]; exact h z hz
theorem FIs.del_ {w : World} {f : Nm → Option Value} {F : Nm → Option Ver} (h : FIs w f F) (k : Nm) : FIs w (Mp.upd f k none) (updV F k none) := fun z hz => by
  by_cases e : z = k
  · subst e; exact .inl ⟨by simp [updV], by simp [Mp.upd]⟩
  · have e1 : Mp.upd f k none z = f z := by simp [Mp.upd, e]
    have e2 : updV F k none z = F z := by simp [updV, e]
    rw [e1, e2]; exact h z hz
theorem FIs.congr {w : World} {f : Nm → Option Value} {F G : Nm → Option Ver} (h : FIs w f F) (e : ∀ k, Nok k → F k = G k) : FIs w f G := fun k hk => by rw [← e k hk]; exact h k hk
/-- Block b is a map of versions, by their names. -/
def MapV (w : World) (b n : Nat) (F : Nm → Option Ver) : Prop := ∃ f, Mp.MapIs nmK w b n f ∧ FIs w f F
theorem MapV.below {w w' : World} {b n : Nat} {F : Nm → Option Ver} (h : MapV w b n F) (hb : Below w.heap.size w w') : MapV w' b n F := let ⟨f, h1, h2⟩ := h; ⟨f, h1.at (hb.block b h1.lt), h2.below hb⟩
theorem MapV.congr {w : World} {b n : Nat} {F G : Nm → Option Ver} (h : MapV w b n F) (e : ∀ k, Nok k → F k = G k) : MapV w b n G := let ⟨f, h1, h2⟩ := h; ⟨f, h1, h2.congr e⟩
theorem zeroVer (w : World) : (zeroValue tVer).run Try.prog w = .ok (.agg #[.int .u64 0, .int .u32 0, .slice none 0 0, .int .u64 0]) w := by kernel_rfl
/-- The first version of each name. -/
def firstOf (l : List Ver) (k : Nm) : Option Ver := l.find? (fun v => decide (v.f0 = k))
end Go.Proofs.Ytacacigpendneaa.QV
/- XRound outside a round (printed from XRound): one condition S on the world for the whole region; what yields its value in every world that meets S is taken first. -/
namespace Go.Proofs.Ytacacigpendneaa.SeqW
open Go Go.RowKit
set_option linter.unusedVariables false

abbrev Rn (l : Nat) : Fence := Fence.wide
theorem calls_in (l n : Nat) {P : Program} {f : FuncId} {args : Array Value} {w : World} {R : Ending → World → Prop} (h : Calls P f args w R) : CallsIn (Rn l) n P f args w R :=
  callsIn_wide.2 h
theorem rows_in (l n : Nat) {P : Program} {row : String} {args : Array Value} {w : World} {R : Value → World → Prop} (h : Rows P row args w R) : RowsIn (Rn l) n P row args w R := by
  intro c cs _
  obtain ⟨v, w', r, s⟩ := h c cs
  exact ⟨v, w', r, stepsIn_wide.2 s⟩
/-- An operation that is no deferred call, carried out in a round, goes as anywhere. -/
theorem op_in (l n : Nat) {P : Program} {o : Oper} {a : Act} {w : World} {K : Act → World → Prop} {Q : Exit → Act → World → Prop} (hnd : ∀ c, o.op ≠ .defer c) (h : o.wp P a w K Q) : o.wpIn (Rn l) n P a w K Q := by
  refine ⟨fun _ _ => trivial, ?_⟩
  unfold Oper.wp at h
  rw [show (Rn l).round = none from rfl, Oper.semAt_none]
  generalize (execOp a.eval o).run P w = r at h
  cases r with
  | ok x w' =>
    cases x <;> simp only [Oper.upon, Oper.uponIn] at h ⊢
    case value v => exact h
    case skip => exact h
    case defer d => exact h
    case enter f args => exact ⟨(fun h => by cases h), calls_in l _ h⟩
    case row row args => exact ⟨(fun h => by cases h), rows_in l _ h⟩
  | halt x w' => cases x <;> simp only [Oper.upon, Oper.uponIn] at h ⊢; exact h

section
variable {l : Nat} {P : Program} {ops : Array Oper} {Q : Exit → Act → World → Prop} {S : World → Prop} {d : Nat}
def noDefer (ops : Array Oper) : Bool := ops.toList.all fun o => match o.op with | .defer _ => false | _ => true
theorem noDefer_spec (h : noDefer ops = true) (j : Nat) (o : Oper) (ho : ops[j]? = some o) : ∀ c, o.op ≠ .defer c := by
  intro c e
  have hm : o ∈ ops.toList := by
    have := Array.mem_of_getElem? ho
    simpa using this
  have := List.all_eq_true.1 h o hm
  rw [e] at this
  simp at this

/-- Number d waits for number i. -/
def waitsOn (ops : Array Oper) (d i : Nat) : Bool := match ops[d]? with
  | some o => o.after.toList.any (fun e => Region.binds .any e && e.on == i)
  | none => true
/-- S is to hold behind each operation but number d. -/
def wpAnyR (l : Nat) (P : Program) (ops : Array Oper) (Q : Exit → Act → World → Prop) (S : World → Prop) (d : Nat) : Nat → Array Bool → Act → World → Prop
  | 0, listed, a, w => Region.ready .any ops listed = [] ∧ Q .normal a w
  | fuel + 1, listed, a, w => (Region.ready .any ops listed = [] → Q .normal a w) ∧
    ∀ i ∈ Region.ready .any ops listed, wpOpIn (Rn l) 0 P ops Q i (fun a' w' => (i = d ∨ S w') ∧ wpAnyR l P ops Q S d fuel (listed.setIfInBounds i true) a' w') a w
theorem wpAnyIn_of_R : ∀ (fuel : Nat) (listed : Array Bool) (a : Act) (w : World), wpAnyR l P ops Q S d fuel listed a w → wpAnyIn (Rn l) 0 P .any ops Q fuel listed a w
  | 0, _, _, _, h => h
  | fuel + 1, _, _, _, h => ⟨h.1, fun i hi => wpOpIn_mono (fun a' w' h' => wpAnyIn_of_R fuel _ a' w' h'.2) (h.2 i hi)⟩
theorem YieldsIf.wpOpR {i : Nat} {o : Oper} {v : Value} {a : Act} (hnd : noDefer ops = true) (hi : ops[i]? = some o) (hy : YieldsIf P ops S o v a) {K : Act → World → Prop} {w : World} (hS : S w) (h : K (a.put o.dst v) w) : wpOpIn (Rn l) 0 P ops Q i K a w := by
  unfold Go.wpOpIn
  simp only [hi]
  rcases hy with ⟨hw, hv⟩ | ⟨hw, rfl⟩
  · simp only [hw, if_true]
    exact op_in l 0 (noDefer_spec hnd i o hi) (by simp only [Oper.wp, hv w hS, Oper.upon]; exact h)
  · simp only [hw, Bool.false_eq_true, if_false]; exact ⟨fun _ _ => trivial, h⟩
theorem wpOpR_putIf {j : Nat} {oi oj : Oper} {v : Value} (hnd : noDefer ops = true) (hj : ops[j]? = some oj) (hap : oi.apart ops oj = true)
    (hsi : ∀ cs b, oi.op ≠ .select cs b) (hsj : ∀ cs b, oj.op ≠ .select cs b)
    (hQ : ∀ c a w, Q (.panic c) (a.put oi.dst v) w → Q (.panic c) a w) {K : Act → World → Prop} {a : Act} {w : World}
    (hy : YieldsIf P ops S oi v a) (h : wpOpIn (Rn l) 0 P ops Q j K (a.put oi.dst v) w) :
    wpOpIn (Rn l) 0 P ops Q j (fun a' w' => YieldsIf P ops S oi v a' ∧ K (a'.put oi.dst v) w') a w := by
  have hnj := noDefer_spec hnd j oj hj
  obtain ⟨h1, h2, h3⟩ := Oper.apart_spec hap
  have keep : ∀ (a : Act), YieldsIf P ops S oi v a → ∀ u, YieldsIf P ops S oi v (a.put oj.dst u) := fun a hy u =>
    hy.of_same (execOp_put oi hsi a oj.dst u h3) (wanted_put oi a oj.dst u h3)
  have keepD : ∀ d, YieldsIf P ops S oi v { a with defers := d :: a.defers } := fun d => hy.of_same rfl rfl
  unfold wpOpIn at *
  simp only [hj] at *
  rw [wanted_put oj a oi.dst v h1] at h
  split
  · rename_i hw
    simp only [hw, if_true] at h
    unfold Oper.wpIn at *
    refine ⟨fun _ _ => trivial, ?_⟩
    have h := h.2
    rw [show (Rn l).round = none from rfl, Oper.semAt_none] at h ⊢
    rw [execOp_put oj hsj a oi.dst v h1] at h
    generalize (execOp a.eval oj).run P w = r at *
    cases r with
    | ok x w' =>
      cases x <;> simp only [Oper.uponIn] at h ⊢
      case value u => exact ⟨keep a hy u, by rw [← Act.put_comm a v u h2]; exact h⟩
      case skip => exact ⟨keep a hy _, by rw [← Act.put_comm a v undef h2]; exact h⟩
      case defer d =>
        refine ⟨keep _ (keepD d) _, ?_⟩
        rw [← Act.put_comm _ v undef h2, ← Act.put_defers]
        exact h
      case enter f args =>
        refine ⟨h.1, CallsIn.mono h.2 fun e w'' he => ?_⟩
        cases e with
        | returned u => exact ⟨keep a hy u, by rw [← Act.put_comm a v u h2]; exact he⟩
        | panicked c => exact hQ _ _ _ he
        | outgrown => exact he
      case row row args => exact ⟨h.1, RowsIn.mono h.2 fun u w'' he => ⟨keep a hy u, by rw [← Act.put_comm a v u h2]; exact he⟩⟩
      case round l f tmps assign body =>
        refine ⟨h.1, RoundIn.mono h.2 fun e w'' he => ?_⟩
        cases e with
        | returned u => exact ⟨keep a hy u, by rw [← Act.put_comm a v u h2]; exact he⟩
        | panicked c => exact hQ _ _ _ he
        | outgrown => exact he
    | halt x w' =>
      cases x <;> simp only [Oper.uponIn] at h ⊢
      case panic u => exact hQ _ _ _ h
  · rename_i hw
    simp only [hw] at h
    exact ⟨fun _ _ => trivial, keep a hy _, by rw [← Act.put_comm a v undef h2]; exact h.2⟩
theorem wpAnyR_first {i : Nat} {oi : Oper} {v : Value} (hnd : noDefer ops = true) (hwd : waitsOn ops d i = true) (hi : ops[i]? = some oi) (hsel : ∀ (j : Nat) (o : Oper) cs b, ops[j]? = some o → o.op ≠ .select cs b)
    (hQ : ∀ c a w, Q (.panic c) (a.put oi.dst v) w → Q (.panic c) a w) :
    ∀ (fuel : Nat) (listed : Array Bool) (a : Act) (w : World),
      (∀ j oj, ops[j]? = some oj → j ≠ i → listed.getD j true = false → (∀ e ∈ oj.after, Region.binds .any e = true → e.on ≠ i) → oi.apart ops oj = true) →
      i ∈ Region.ready .any ops listed → YieldsIf P ops S oi v a → S w →
      wpAnyR l P ops Q S d fuel (listed.setIfInBounds i true) (a.put oi.dst v) w → wpAnyR l P ops Q S d (fuel + 1) listed a w := by
  intro fuel
  induction fuel with
  | zero =>
    intro listed a w _ hr hy hS H
    refine ⟨fun h => (by rw [h] at hr; cases hr), fun j hj => ?_⟩
    by_cases hji : j = i
    · subst hji; exact YieldsIf.wpOpR hnd hi hy hS ⟨.inr hS, H⟩
    · have := ready_mono hj hji
      rw [H.1] at this
      cases this
  | succ fuel ih =>
    intro listed a w hfree hr hy hS H
    refine ⟨fun h => (by rw [h] at hr; cases hr), fun j hj => ?_⟩
    by_cases hji : j = i
    · subst hji; exact YieldsIf.wpOpR hnd hi hy hS ⟨.inr hS, H⟩
    · have h1 := H.2 j (ready_mono hj hji)
      obtain ⟨hjun, oj, hoj, hall⟩ := mem_ready.1 hj
      have hnot : ∀ e ∈ oj.after, Region.binds .any e = true → e.on ≠ i := fun e he hb heq => by
        have h1 := hall e he hb
        have h0 := (mem_ready.1 hr).1
        rw [heq] at h1
        rcases Nat.lt_or_ge i listed.size with h' | h'
        · simp [h'] at h0 h1; rw [h0] at h1; cases h1
        · simp [Array.getElem?_eq_none h'] at h1
      have h2 := wpOpR_putIf hnd hoj (hfree j oj hoj hji hjun hnot) (fun cs b => hsel i oi cs b hi) (fun cs b => hsel j oj cs b hoj) hQ hy h1
      have hfree' : ∀ k ok, ops[k]? = some ok → k ≠ i → (listed.setIfInBounds j true).getD k true = false →
          (∀ e ∈ ok.after, Region.binds .any e = true → e.on ≠ i) → oi.apart ops ok = true := fun k ok hk hki hun hno => by
        refine hfree k ok hk hki ?_ hno
        by_cases hjk : j = k
        · subst hjk; exact hjun
        · rw [getD_set_ne true hjk] at hun; exact hun
      have hjd : j ≠ d := by
        rintro rfl
        unfold waitsOn at hwd
        rw [hoj] at hwd
        obtain ⟨q, hq, hqb⟩ := List.any_eq_true.1 hwd
        rw [Array.mem_toList_iff] at hq
        rw [Bool.and_eq_true] at hqb
        exact hnot q hq hqb.1 (by simpa using hqb.2)
      refine wpOpIn_mono (fun a' w' h3 => ⟨.inr (h3.2.1.resolve_left hjd), ih (listed.setIfInBounds j true) a' w' hfree' (ready_mono hr (Ne.symm hji)) h3.1 (h3.2.1.resolve_left hjd) ?_⟩) h2
      rw [Array.setIfInBounds_comm _ _ hji]
      exact h3.2.2
/-- Take number i first. -/
theorem wpAnyR_take {i : Nat} {oi : Oper} {v : Value} {fuel : Nat} {listed : Array Bool} {a : Act} {w : World} (hnd : noDefer ops = true) (hwd : waitsOn ops d i = true) (hi : ops[i]? = some oi)
    (hs : Region.noSelect ops = true) (hf : Region.free .any ops listed i = true) (hr : (Region.ready .any ops listed).contains i = true)
    (hQ : ∀ c a w, Q (.panic c) (a.put oi.dst v) w → Q (.panic c) a w) (hy : YieldsIf P ops S oi v a) (hS : S w)
    (h : wpAnyR l P ops Q S d fuel (listed.setIfInBounds i true) (a.put oi.dst v) w) : wpAnyR l P ops Q S d (fuel + 1) listed a w :=
  wpAnyR_first hnd hwd hi (Region.noSelect_spec hs) hQ fuel listed a w (Region.free_spec hi hf) (by simpa using hr) hy hS h
/-- Number i is the only one that may come up: it goes as anywhere. -/
theorem wpAnyR_one {i : Nat} {o : Oper} {fuel : Nat} {listed : Array Bool} {a : Act} {w : World} (hnd : noDefer ops = true) (hr : Region.ready .any ops listed = [i]) (ho : ops[i]? = some o)
    (h : ∀ K' : Act → World → Prop, Shut (∀ a w, (i = d ∨ S w) → wpAnyR l P ops Q S d fuel (listed.setIfInBounds i true) a w → K' a w) → if Region.wanted o (yielded ops a.tmps) = true then Oper.wp P o a w K' Q else K' (a.put o.dst undef) w) :
    wpAnyR l P ops Q S d (fuel + 1) listed a w := by
  refine ⟨fun h0 => (by rw [hr] at h0; cases h0), fun j hj => ?_⟩
  rw [hr] at hj
  obtain rfl := List.mem_singleton.1 hj
  have := h (fun a' w' => (j = d ∨ S w') ∧ wpAnyR l P ops Q S d fuel (listed.setIfInBounds j true) a' w') (fun a w hs hw => ⟨hs, hw⟩)
  unfold Go.wpOpIn
  simp only [ho]
  split
  · rename_i hw; rw [if_pos hw] at this; exact op_in l 0 (noDefer_spec hnd j o ho) this
  · rename_i hw; rw [if_neg hw] at this; exact ⟨fun _ _ => trivial, this⟩
/-- Number i is the only one that may come up, and it is a call of yield (or whatever else goes in a round alone). -/
theorem wpAnyR_oneIn {i : Nat} {o : Oper} {fuel : Nat} {listed : Array Bool} {a : Act} {w : World} (hr : Region.ready .any ops listed = [i]) (ho : ops[i]? = some o)
    (h : ∀ K' : Act → World → Prop, Shut (∀ a w, (i = d ∨ S w) → wpAnyR l P ops Q S d fuel (listed.setIfInBounds i true) a w → K' a w) → if Region.wanted o (yielded ops a.tmps) = true then Oper.wpIn (Rn l) 0 P o a w K' Q else K' (a.put o.dst undef) w) :
    wpAnyR l P ops Q S d (fuel + 1) listed a w := by
  refine ⟨fun h0 => (by rw [hr] at h0; cases h0), fun j hj => ?_⟩
  rw [hr] at hj
  obtain rfl := List.mem_singleton.1 hj
  have := h (fun a' w' => (j = d ∨ S w') ∧ wpAnyR l P ops Q S d fuel (listed.setIfInBounds j true) a' w') (fun a w hs hw => ⟨hs, hw⟩)
  unfold Go.wpOpIn
  simp only [ho]
  split
  · rename_i hw; rw [if_pos hw] at this; exact this
  · rename_i hw; rw [if_neg hw] at this; exact ⟨fun _ _ => trivial, this⟩
theorem wpAnyR_done {listed : Array Bool} {a : Act} {w : World} (hr : Region.ready .any ops listed = []) (h : Q .normal a w) : ∀ fuel, wpAnyR l P ops Q S d fuel listed a w
  | 0 => ⟨hr, h⟩
  | _ + 1 => ⟨fun _ => h, by rw [hr]; simp⟩
/-- The beginning. -/
theorem wpIn_region_R (d : Nat) {id : Nat} {a : Act} {w : World} (hm : P.follows .mixedOrders = true) (hS : S w.drew)
    (h : S w.drew → wpAnyR l P ops Q S d ops.size (Array.replicate ops.size false) a w.drew) : (Code.region id ops true).wpIn (Rn l) 0 P Q a w :=
  wpIn_region_any hm (wpAnyIn_of_R _ _ _ _ (h hS))
end
end Go.Proofs.Ytacacigpendneaa.SeqW
/- Versions in memory: their cells. -/
namespace Go.Proofs.Ytacacigpendneaa.QV
open Go.RowKit Go.Proofs.YtacacigpendneaaW.PrintWords Go.Proofs.Ytacacigpendneaa.Mp Go.Proofs.Ytacacigpendneaa.SeqW
set_option linter.unusedVariables false
set_option linter.unusedSimpArgs false
set_option maxRecDepth 100000
theorem btr' {a b c : World} (h : Below a.heap.size a b) (k : Below b.heap.size b c) : Below a.heap.size a c := h.trans (k.mono h.size)
theorem wp_at {P : Program} {c : Code} {Q : Exit → Act → World → Prop} {a : Act} {W : World} (S : World → Prop) (h : S W) (k : ∀ W, S W → Code.wp P c Q a W) : Code.wp P c Q a W := k W h
theorem getD_mem {α : Type} (z : α) {l : List α} {i : Nat} (h : i < l.length) : l.getD i z ∈ l := by
  rw [List.getD_eq_getElem?_getD, List.getElem?_eq_getElem h]; exact List.getElem_mem h
theorem take_snoc' {α : Type} (z : α) (l : List α) (i : Nat) (h : i < l.length) : l.take i ++ [l.getD i z] = l.take (i + 1) := by
  rw [List.take_succ_eq_append_getElem h, List.getD_eq_getElem?_getD, List.getElem?_eq_getElem h]; rfl
end Go.Proofs.Ytacacigpendneaa.QV
/- Printed by mp.py (this session's) with the kit's print: plain functions with the answers of the Go code, and the proofs of it. -/
namespace Go.Proofs.Ytacacigpendneaa.QO
open Go.RowKit Go.Proofs.YtacacigpendneaaW.PrintWords Go.Proofs.YtacacigpendneaaW.PrintLast Go.Proofs.YtacacigpendneaaW.PrintMore
attribute [local go_sem] max2_int min2_int max_two min_two max_three min_three max_four min_four   -- for this text's walks alone
set_option linter.unusedVariables false
set_option linter.unusedSimpArgs false



def errW : Option Int → Value
  | none => .nilIface
  | some c => .iface 0 (.int .i64 c)
theorem errW_none : errW none = .nilIface := rfl
theorem errW_some (c : Int) : errW (some c) = .iface 0 (.int .i64 c) := rfl

-- the values' own types

end Go.Proofs.Ytacacigpendneaa.QO
/- Printed by mp.py (this session's) with the kit's print: plain functions with the answers of the Go code, and the proofs of it. -/
namespace Go.Proofs.Ytacacigpendneaa.QO
open Go.RowKit Go.Proofs.YtacacigpendneaaW.PrintWords Go.Proofs.YtacacigpendneaaW.PrintLast Go.Proofs.YtacacigpendneaaW.PrintMore
attribute [local go_sem] max2_int min2_int max_two min_two max_three min_three max_four min_four   -- for this text's walks alone
set_option linter.unusedVariables false
set_option linter.unusedSimpArgs false

/-! ### cmp_Or_int: function 49 -/
def cmp_Or_int.l0 : Nat → Int → List Int → Int → Int → Option (Int)
  | 0, _, _, _, _ => none
  | k + 1, x3, x6, x7, x8 => if x8 < x7 then (if 0 ≤ x8 then (if x8 < (x6.length : Int) then (if (rd x6 x8) = x3 then (cmp_Or_int.l0 k x3 x6 x7 (wrap64 (x8 + 1))) else (some (rd x6 x8))) else (none)) else (none)) else (some x3)
def cmp_Or_int.f (k : Nat) (l0 : List Int) : Option (Int) := cmp_Or_int.l0 k 0 l0 (l0.length : Int) 0
theorem cmp_Or_int.mono_l : ∀ k, (∀ y0 y1 y2 y3, LeO (cmp_Or_int.l0 k y0 y1 y2 y3) (cmp_Or_int.l0 (k + 1) y0 y1 y2 y3))
  | 0 => fun _ _ _ _ r h => by simp [cmp_Or_int.l0] at h
  | k + 1 => by
    have ih0 := cmp_Or_int.mono_l k
    · intro y0 y1 y2 y3
      unfold cmp_Or_int.l0
      repeat' first
      | (with_reducible exact ih0 _ _ _ _)
      | (with_reducible exact LeO.refl _)
      | (with_reducible exact LeO.none _)
      | (with_reducible refine LeO.ite ?_ ?_)
      | (with_reducible refine LeO.bind ?_ (fun _ => ?_))
      | exact ih0 _ _ _ _
      | exact LeO.none _
      | refine LeO.ite ?_ ?_
      | refine LeO.bind ?_ (fun _ => ?_)
theorem cmp_Or_int.mono : ∀ a0 k, LeO (cmp_Or_int.f k a0) (cmp_Or_int.f (k + 1) a0) := by
  intro a0 k
  have ih0 := cmp_Or_int.mono_l k
  unfold cmp_Or_int.f
  repeat' first
      | (with_reducible exact ih0 _ _ _ _)
      | (with_reducible exact LeO.refl _)
      | (with_reducible exact LeO.none _)
      | (with_reducible refine LeO.ite ?_ ?_)
      | (with_reducible refine LeO.bind ?_ (fun _ => ?_))
      | exact ih0 _ _ _ _
      | exact LeO.none _
      | refine LeO.ite ?_ ?_
      | refine LeO.bind ?_ (fun _ => ?_)
set_option maxHeartbeats 8000000 in
set_option maxRecDepth 100000 in
theorem cmp_Or_int.calls (k : Nat) (A0 : Option Addr) (c0 : Nat) (l0 : List Int) (r : Int) (w : World) (hr0 : Kd.C (Kd.int .i64) w A0 l0.length l0) (hc0 : l0.length ≤ c0) (h : cmp_Or_int.f k l0 = some r) :
    Calls Try.prog 49 #[.slice A0 l0.length c0] w fun e w' => e = .returned (.int .i64 r) ∧ Drawn0 w w' := by
  have HR0 := Aside0.mk hr0
  have HC0 := Aside0.mk hc0
  clear hr0 hc0
  have H : (cmp_Or_int.l0 k 0 l0 (l0.length : Int) 0) = some r := h
  clear h
  have H' := Aside0.mk H
  clear H
  go_enter Try.func49, Try.ntmps49
  go_wp2
  go_loopg [8] k (fun kq v8 w' => ∃ (x8_1 : Int), v8 = .int .i64 x8_1 ∧ Aside0 (cmp_Or_int.l0 kq 0 l0 (l0.length : Int) x8_1 = some r) ∧ Aside0 (kq ≤ k) ∧ Drawn0 w w')
  case atStart => exact ⟨(0), (by first | rfl | (simp; done) | (simp [*]; done)), H', ⟨Nat.le_refl _⟩, by repeat (first | exact Drawn0.refl _ | apply Drawn0.step)⟩
  case round =>
    clear H'
    obtain ⟨x8_1, rfl, HA, HK1, ⟨m1, rfl⟩⟩ := hrel
    cases gk with
    | zero => exact absurd HA.out (by simp [cmp_Or_int.l0])
    | succ k1 =>
      have H := HA.out
      clear HA
      simp only [cmp_Or_int.l0] at H
      by_cases c2 : x8_1 < (l0.length : Int)
      · rw [if_pos c2] at H
        have c2b0 : decide (x8_1 < (l0.length : Int)) = true := decide_eq_true c2
        clear c2
        by_cases c3 : 0 ≤ x8_1
        · rw [if_pos c3] at H
          have c3b0 : decide (0 ≤ x8_1) = true := decide_eq_true c3
          clear c3
          by_cases c4 : x8_1 < (l0.length : Int)
          · rw [if_pos c4] at H
            have c4b0 : decide (x8_1 < (l0.length : Int)) = true := decide_eq_true c4
            clear c4
            by_cases c5 : (rd l0 x8_1) = 0
            · rw [if_pos c5] at H
              have c5b0 : ((rd l0 x8_1) == 0) = true := beq_iff_eq.mpr c5
              have c5b1 : ((rd l0 x8_1) != 0) = false := bne_eq_false_iff_eq.mpr c5
              clear c5
              have H' := Aside0.mk H
              clear H
              have p101 : 0 ≤ (x8_1 : Int) := of_decide_eq_true (by first | (with_reducible assumption) | assumption)
              have q101 : x8_1 < (l0.length : Int) := of_decide_eq_true (by first | (with_reducible assumption) | assumption)
              obtain ⟨ad101, e101, hx101_0⟩ := Kd.at_int HR0.out x8_1 p101 q101
              cases e101
              replace p101 := eq_true p101
              replace q101 := eq_true q101
              go_wp2
              go_roundg k1
              case measure => have := HK1.out; omega
              case rel => exact ⟨(wrap64 (x8_1 + 1)), (by first | rfl | (simp; done) | (simp [*]; done)), H', ⟨by have := HK1.out; omega⟩, by repeat (first | exact Drawn0.refl _ | apply Drawn0.step)⟩
            · rw [if_neg c5] at H
              have c5b0 : ((rd l0 x8_1) == 0) = false := beq_eq_false_iff_ne.mpr c5
              have c5b1 : ((rd l0 x8_1) != 0) = true := bne_iff_ne.mpr c5
              obtain rfl := Option.some.inj H
              have p101 : 0 ≤ (x8_1 : Int) := of_decide_eq_true (by first | (with_reducible assumption) | assumption)
              have q101 : x8_1 < (l0.length : Int) := of_decide_eq_true (by first | (with_reducible assumption) | assumption)
              obtain ⟨ad101, e101, hx101_0⟩ := Kd.at_int HR0.out x8_1 p101 q101
              cases e101
              replace p101 := eq_true p101
              replace q101 := eq_true q101
              go_wp2
              go_ret
              exact ⟨by first | rfl | (simp; done) | (simp [*]; done), by repeat (first | exact Drawn0.refl _ | apply Drawn0.step)⟩
          · rw [if_neg c4] at H
            exact absurd H (by simp)
        · rw [if_neg c3] at H
          exact absurd H (by simp)
      · rw [if_neg c2] at H
        have c2b0 : decide (x8_1 < (l0.length : Int)) = false := decide_eq_false c2
        clear c2
        obtain rfl := Option.some.inj H
        go_wp2
        go_ret
        exact ⟨by first | rfl | (simp; done) | (simp [*]; done), by repeat (first | exact Drawn0.refl _ | apply Drawn0.step)⟩

/-! ### cmp_isNaN_uint64: function 59 -/
def cmp_isNaN_uint64.f (a0 : Int) : Option (Bool) := some (a0 != a0)
set_option maxHeartbeats 8000000 in
set_option maxRecDepth 100000 in
theorem cmp_isNaN_uint64.calls (a0 : Int) (r : Bool) (w : World) (h : cmp_isNaN_uint64.f a0 = some r) :
    Calls Try.prog 59 #[.int .u64 a0] w fun e w' => e = .returned (.bool r) ∧ Drawn0 w w' := by
  have H : (some (a0 != a0)) = some r := h
  clear h
  obtain rfl := Option.some.inj H
  go_enter Try.func59, Try.ntmps59
  go_wp2
  go_ret
  exact ⟨by first | rfl | (simp; done) | (simp [*]; done), by repeat (first | exact Drawn0.refl _ | apply Drawn0.step)⟩

/-! ### cmp_Compare_uint64: function 50 -/
def cmp_Compare_uint64.f (a0 : Int) (a1 : Int) : Option (Int) := (cmp_isNaN_uint64.f a0).bind fun t102 => ((cmp_isNaN_uint64.f a1).bind fun t103 => (if t102 = true then (if t103 = true then (some 0) else (some (-1))) else (if t103 = true then (some 1) else (if a0 < a1 then (some (-1)) else (if a0 > a1 then (some 1) else (some 0))))))
set_option maxHeartbeats 8000000 in
set_option maxRecDepth 100000 in
theorem cmp_Compare_uint64.calls (a0 : Int) (a1 : Int) (r : Int) (w : World) (h : cmp_Compare_uint64.f a0 a1 = some r) :
    Calls Try.prog 50 #[.int .u64 a0, .int .u64 a1] w fun e w' => e = .returned (.int .i64 r) ∧ Drawn0 w w' := by
  have H : ((cmp_isNaN_uint64.f a0).bind fun t102 => ((cmp_isNaN_uint64.f a1).bind fun t103 => (if t102 = true then (if t103 = true then (some 0) else (some (-1))) else (if t103 = true then (some 1) else (if a0 < a1 then (some (-1)) else (if a0 > a1 then (some 1) else (some 0))))))) = some r := h
  clear h
  replace H := Option.bind_eq_some_iff.mp H
  obtain ⟨t102, A30, H⟩ := H
  replace H : ((cmp_isNaN_uint64.f a1).bind fun t103 => (if t102 = true then (if t103 = true then (some 0) else (some (-1))) else (if t103 = true then (some 1) else (if a0 < a1 then (some (-1)) else (if a0 > a1 then (some 1) else (some 0)))))) = some r := H
  have A3 := Aside0.mk A30
  clear A30
  replace H := Option.bind_eq_some_iff.mp H
  obtain ⟨t103, A40, H⟩ := H
  replace H : (if t102 = true then (if t103 = true then (some 0) else (some (-1))) else (if t103 = true then (some 1) else (if a0 < a1 then (some (-1)) else (if a0 > a1 then (some 1) else (some 0))))) = some r := H
  have A4 := Aside0.mk A40
  clear A40
  by_cases c5 : t102 = true
  · subst c5
    have H1 : (if t103 = true then (some 0) else (some (-1))) = some r := by rw [if_pos rfl] at H; exact H
    clear H
    have H := H1
    clear H1
    by_cases c6 : t103 = true
    · subst c6
      have H1 : (some 0) = some r := by rw [if_pos rfl] at H; exact H
      clear H
      have H := H1
      clear H1
      obtain rfl := Option.some.inj H
      go_enter Try.func50, Try.ntmps50
      go_wp2_with (first | ((with_reducible refine gate_callee (f := 59) rfl ?_); refine goesL_ (some 8) rfl rfl Try.func59 (by kernel_rfl) rfl #[.int .u64 a0] rfl (by (try simp only [List.map_toArray, List.map_cons, List.map_nil]); first | done | rfl | (simp only [List.length_drop, List.length_take]; rfl)) ?_; (with_reducible refine (cmp_isNaN_uint64.calls a0 true _ A3.out).mono ?_); rintro e w' ⟨rfl, ⟨nd, rfl⟩⟩; refine ⟨_, rfl, ?_⟩) | ((with_reducible refine gate_callee (f := 59) rfl ?_); refine goesL_ (some 10) rfl rfl Try.func59 (by kernel_rfl) rfl #[.int .u64 a1] rfl (by (try simp only [List.map_toArray, List.map_cons, List.map_nil]); first | done | rfl | (simp only [List.length_drop, List.length_take]; rfl)) ?_; (with_reducible refine (cmp_isNaN_uint64.calls a1 true _ A4.out).mono ?_); rintro e w' ⟨rfl, ⟨nd, rfl⟩⟩; refine ⟨_, rfl, ?_⟩))
      go_ret
      exact ⟨by first | rfl | (simp; done) | (simp [*]; done), by repeat (first | exact Drawn0.refl _ | apply Drawn0.step)⟩
    · replace c6 := Bool.eq_false_iff.mpr c6
      subst c6
      have H1 : (some (-1)) = some r := by rw [if_neg (show ¬ (false = true) by decide)] at H; exact H
      clear H
      have H := H1
      clear H1
      obtain rfl := Option.some.inj H
      go_enter Try.func50, Try.ntmps50
      go_wp2_with (first | ((with_reducible refine gate_callee (f := 59) rfl ?_); refine goesL_ (some 8) rfl rfl Try.func59 (by kernel_rfl) rfl #[.int .u64 a0] rfl (by (try simp only [List.map_toArray, List.map_cons, List.map_nil]); first | done | rfl | (simp only [List.length_drop, List.length_take]; rfl)) ?_; (with_reducible refine (cmp_isNaN_uint64.calls a0 true _ A3.out).mono ?_); rintro e w' ⟨rfl, ⟨nd, rfl⟩⟩; refine ⟨_, rfl, ?_⟩) | ((with_reducible refine gate_callee (f := 59) rfl ?_); refine goesL_ (some 10) rfl rfl Try.func59 (by kernel_rfl) rfl #[.int .u64 a1] rfl (by (try simp only [List.map_toArray, List.map_cons, List.map_nil]); first | done | rfl | (simp only [List.length_drop, List.length_take]; rfl)) ?_; (with_reducible refine (cmp_isNaN_uint64.calls a1 false _ A4.out).mono ?_); rintro e w' ⟨rfl, ⟨nd, rfl⟩⟩; refine ⟨_, rfl, ?_⟩))
      go_ret
      exact ⟨by first | rfl | (simp; done) | (simp [*]; done), by repeat (first | exact Drawn0.refl _ | apply Drawn0.step)⟩
  · replace c5 := Bool.eq_false_iff.mpr c5
    subst c5
    have H1 : (if t103 = true then (some 1) else (if a0 < a1 then (some (-1)) else (if a0 > a1 then (some 1) else (some 0)))) = some r := by rw [if_neg (show ¬ (false = true) by decide)] at H; exact H
    clear H
    have H := H1
    clear H1
    by_cases c7 : t103 = true
    · subst c7
      have H1 : (some 1) = some r := by rw [if_pos rfl] at H; exact H
      clear H
      have H := H1
      clear H1
      obtain rfl := Option.some.inj H
      go_enter Try.func50, Try.ntmps50
      go_wp2_with (first | ((with_reducible refine gate_callee (f := 59) rfl ?_); refine goesL_ (some 8) rfl rfl Try.func59 (by kernel_rfl) rfl #[.int .u64 a0] rfl (by (try simp only [List.map_toArray, List.map_cons, List.map_nil]); first | done | rfl | (simp only [List.length_drop, List.length_take]; rfl)) ?_; (with_reducible refine (cmp_isNaN_uint64.calls a0 false _ A3.out).mono ?_); rintro e w' ⟨rfl, ⟨nd, rfl⟩⟩; refine ⟨_, rfl, ?_⟩) | ((with_reducible refine gate_callee (f := 59) rfl ?_); refine goesL_ (some 10) rfl rfl Try.func59 (by kernel_rfl) rfl #[.int .u64 a1] rfl (by (try simp only [List.map_toArray, List.map_cons, List.map_nil]); first | done | rfl | (simp only [List.length_drop, List.length_take]; rfl)) ?_; (with_reducible refine (cmp_isNaN_uint64.calls a1 true _ A4.out).mono ?_); rintro e w' ⟨rfl, ⟨nd, rfl⟩⟩; refine ⟨_, rfl, ?_⟩))
      go_ret
      exact ⟨by first | rfl | (simp; done) | (simp [*]; done), by repeat (first | exact Drawn0.refl _ | apply Drawn0.step)⟩
    · replace c7 := Bool.eq_false_iff.mpr c7
      subst c7
      have H1 : (if a0 < a1 then (some (-1)) else (if a0 > a1 then (some 1) else (some 0))) = some r := by rw [if_neg (show ¬ (false = true) by decide)] at H; exact H
      clear H
      have H := H1
      clear H1
      by_cases c8 : a0 < a1
      · rw [if_pos c8] at H
        have c8b0 : decide (a0 < a1) = true := decide_eq_true c8
        clear c8
        obtain rfl := Option.some.inj H
        go_enter Try.func50, Try.ntmps50
        go_wp2_with (first | ((with_reducible refine gate_callee (f := 59) rfl ?_); refine goesL_ (some 8) rfl rfl Try.func59 (by kernel_rfl) rfl #[.int .u64 a0] rfl (by (try simp only [List.map_toArray, List.map_cons, List.map_nil]); first | done | rfl | (simp only [List.length_drop, List.length_take]; rfl)) ?_; (with_reducible refine (cmp_isNaN_uint64.calls a0 false _ A3.out).mono ?_); rintro e w' ⟨rfl, ⟨nd, rfl⟩⟩; refine ⟨_, rfl, ?_⟩) | ((with_reducible refine gate_callee (f := 59) rfl ?_); refine goesL_ (some 10) rfl rfl Try.func59 (by kernel_rfl) rfl #[.int .u64 a1] rfl (by (try simp only [List.map_toArray, List.map_cons, List.map_nil]); first | done | rfl | (simp only [List.length_drop, List.length_take]; rfl)) ?_; (with_reducible refine (cmp_isNaN_uint64.calls a1 false _ A4.out).mono ?_); rintro e w' ⟨rfl, ⟨nd, rfl⟩⟩; refine ⟨_, rfl, ?_⟩))
        go_ret
        exact ⟨by first | rfl | (simp; done) | (simp [*]; done), by repeat (first | exact Drawn0.refl _ | apply Drawn0.step)⟩
      · rw [if_neg c8] at H
        have c8b0 : decide (a0 < a1) = false := decide_eq_false c8
        clear c8
        by_cases c9 : a0 > a1
        · rw [if_pos c9] at H
          have c9b0 : decide (a1 < a0) = true := decide_eq_true c9
          clear c9
          obtain rfl := Option.some.inj H
          go_enter Try.func50, Try.ntmps50
          go_wp2_with (first | ((with_reducible refine gate_callee (f := 59) rfl ?_); refine goesL_ (some 8) rfl rfl Try.func59 (by kernel_rfl) rfl #[.int .u64 a0] rfl (by (try simp only [List.map_toArray, List.map_cons, List.map_nil]); first | done | rfl | (simp only [List.length_drop, List.length_take]; rfl)) ?_; (with_reducible refine (cmp_isNaN_uint64.calls a0 false _ A3.out).mono ?_); rintro e w' ⟨rfl, ⟨nd, rfl⟩⟩; refine ⟨_, rfl, ?_⟩) | ((with_reducible refine gate_callee (f := 59) rfl ?_); refine goesL_ (some 10) rfl rfl Try.func59 (by kernel_rfl) rfl #[.int .u64 a1] rfl (by (try simp only [List.map_toArray, List.map_cons, List.map_nil]); first | done | rfl | (simp only [List.length_drop, List.length_take]; rfl)) ?_; (with_reducible refine (cmp_isNaN_uint64.calls a1 false _ A4.out).mono ?_); rintro e w' ⟨rfl, ⟨nd, rfl⟩⟩; refine ⟨_, rfl, ?_⟩))
          go_ret
          exact ⟨by first | rfl | (simp; done) | (simp [*]; done), by repeat (first | exact Drawn0.refl _ | apply Drawn0.step)⟩
        · rw [if_neg c9] at H
          have c9b0 : decide (a1 < a0) = false := decide_eq_false c9
          clear c9
          obtain rfl := Option.some.inj H
          go_enter Try.func50, Try.ntmps50
          go_wp2_with (first | ((with_reducible refine gate_callee (f := 59) rfl ?_); refine goesL_ (some 8) rfl rfl Try.func59 (by kernel_rfl) rfl #[.int .u64 a0] rfl (by (try simp only [List.map_toArray, List.map_cons, List.map_nil]); first | done | rfl | (simp only [List.length_drop, List.length_take]; rfl)) ?_; (with_reducible refine (cmp_isNaN_uint64.calls a0 false _ A3.out).mono ?_); rintro e w' ⟨rfl, ⟨nd, rfl⟩⟩; refine ⟨_, rfl, ?_⟩) | ((with_reducible refine gate_callee (f := 59) rfl ?_); refine goesL_ (some 10) rfl rfl Try.func59 (by kernel_rfl) rfl #[.int .u64 a1] rfl (by (try simp only [List.map_toArray, List.map_cons, List.map_nil]); first | done | rfl | (simp only [List.length_drop, List.length_take]; rfl)) ?_; (with_reducible refine (cmp_isNaN_uint64.calls a1 false _ A4.out).mono ?_); rintro e w' ⟨rfl, ⟨nd, rfl⟩⟩; refine ⟨_, rfl, ?_⟩))
          go_ret
          exact ⟨by first | rfl | (simp; done) | (simp [*]; done), by repeat (first | exact Drawn0.refl _ | apply Drawn0.step)⟩

/-! ### cmp_isNaN_uint32: function 60 -/
def cmp_isNaN_uint32.f (a0 : Int) : Option (Bool) := some (a0 != a0)
set_option maxHeartbeats 8000000 in
set_option maxRecDepth 100000 in
theorem cmp_isNaN_uint32.calls (a0 : Int) (r : Bool) (w : World) (h : cmp_isNaN_uint32.f a0 = some r) :
    Calls Try.prog 60 #[.int .u32 a0] w fun e w' => e = .returned (.bool r) ∧ Drawn0 w w' := by
  have H : (some (a0 != a0)) = some r := h
  clear h
  obtain rfl := Option.some.inj H
  go_enter Try.func60, Try.ntmps60
  go_wp2
  go_ret
  exact ⟨by first | rfl | (simp; done) | (simp [*]; done), by repeat (first | exact Drawn0.refl _ | apply Drawn0.step)⟩

/-! ### cmp_Compare_uint32: function 51 -/
def cmp_Compare_uint32.f (a0 : Int) (a1 : Int) : Option (Int) := (cmp_isNaN_uint32.f a0).bind fun t104 => ((cmp_isNaN_uint32.f a1).bind fun t105 => (if t104 = true then (if t105 = true then (some 0) else (some (-1))) else (if t105 = true then (some 1) else (if a0 < a1 then (some (-1)) else (if a0 > a1 then (some 1) else (some 0))))))
set_option maxHeartbeats 8000000 in
set_option maxRecDepth 100000 in
theorem cmp_Compare_uint32.calls (a0 : Int) (a1 : Int) (r : Int) (w : World) (h : cmp_Compare_uint32.f a0 a1 = some r) :
    Calls Try.prog 51 #[.int .u32 a0, .int .u32 a1] w fun e w' => e = .returned (.int .i64 r) ∧ Drawn0 w w' := by
  have H : ((cmp_isNaN_uint32.f a0).bind fun t104 => ((cmp_isNaN_uint32.f a1).bind fun t105 => (if t104 = true then (if t105 = true then (some 0) else (some (-1))) else (if t105 = true then (some 1) else (if a0 < a1 then (some (-1)) else (if a0 > a1 then (some 1) else (some 0))))))) = some r := h
  clear h
  replace H := Option.bind_eq_some_iff.mp H
  obtain ⟨t104, A30, H⟩ := H
  replace H : ((cmp_isNaN_uint32.f a1).bind fun t105 => (if t104 = true then (if t105 = true then (some 0) else (some (-1))) else (if t105 = true then (some 1) else (if a0 < a1 then (some (-1)) else (if a0 > a1 then (some 1) else (some 0)))))) = some r := H
  have A3 := Aside0.mk A30
  clear A30
  replace H := Option.bind_eq_some_iff.mp H
  obtain ⟨t105, A40, H⟩ := H
  replace H : (if t104 = true then (if t105 = true then (some 0) else (some (-1))) else (if t105 = true then (some 1) else (if a0 < a1 then (some (-1)) else (if a0 > a1 then (some 1) else (some 0))))) = some r := H
  have A4 := Aside0.mk A40
  clear A40
  by_cases c5 : t104 = true
  · subst c5
    have H1 : (if t105 = true then (some 0) else (some (-1))) = some r := by rw [if_pos rfl] at H; exact H
    clear H
    have H := H1
    clear H1
    by_cases c6 : t105 = true
    · subst c6
      have H1 : (some 0) = some r := by rw [if_pos rfl] at H; exact H
      clear H
      have H := H1
      clear H1
      obtain rfl := Option.some.inj H
      go_enter Try.func51, Try.ntmps51
      go_wp2_with (first | ((with_reducible refine gate_callee (f := 60) rfl ?_); refine goesL_ (some 8) rfl rfl Try.func60 (by kernel_rfl) rfl #[.int .u32 a0] rfl (by (try simp only [List.map_toArray, List.map_cons, List.map_nil]); first | done | rfl | (simp only [List.length_drop, List.length_take]; rfl)) ?_; (with_reducible refine (cmp_isNaN_uint32.calls a0 true _ A3.out).mono ?_); rintro e w' ⟨rfl, ⟨nd, rfl⟩⟩; refine ⟨_, rfl, ?_⟩) | ((with_reducible refine gate_callee (f := 60) rfl ?_); refine goesL_ (some 10) rfl rfl Try.func60 (by kernel_rfl) rfl #[.int .u32 a1] rfl (by (try simp only [List.map_toArray, List.map_cons, List.map_nil]); first | done | rfl | (simp only [List.length_drop, List.length_take]; rfl)) ?_; (with_reducible refine (cmp_isNaN_uint32.calls a1 true _ A4.out).mono ?_); rintro e w' ⟨rfl, ⟨nd, rfl⟩⟩; refine ⟨_, rfl, ?_⟩))
      go_ret
      exact ⟨by first | rfl | (simp; done) | (simp [*]; done), by repeat (first | exact Drawn0.refl _ | apply Drawn0.step)⟩
    · replace c6 := Bool.eq_false_iff.mpr c6
      subst c6
      have H1 : (some (-1)) = some r := by rw [if_neg (show ¬ (false = true) by decide)] at H; exact H
      clear H
      have H := H1
      clear H1
      obtain rfl := Option.some.inj H
      go_enter Try.func51, Try.ntmps51
      go_wp2_with (first | ((with_reducible refine gate_callee (f := 60) rfl ?_); refine goesL_ (some 8) rfl rfl Try.func60 (by kernel_rfl) rfl #[.int .u32 a0] rfl (by (try simp only [List.map_toArray, List.map_cons, List.map_nil]); first | done | rfl | (simp only [List.length_drop, List.length_take]; rfl)) ?_; (with_reducible refine (cmp_isNaN_uint32.calls a0 true _ A3.out).mono ?_); rintro e w' ⟨rfl, ⟨nd, rfl⟩⟩; refine ⟨_, rfl, ?_⟩) | ((with_reducible refine gate_callee (f := 60) rfl ?_); refine goesL_ (some 10) rfl rfl Try.func60 (by kernel_rfl) rfl #[.int .u32 a1] rfl (by (try simp only [List.map_toArray, List.map_cons, List.map_nil]); first | done | rfl | (simp only [List.length_drop, List.length_take]; rfl)) ?_; (with_reducible refine (cmp_isNaN_uint32.calls a1 false _ A4.out).mono ?_); rintro e w' ⟨rfl, ⟨nd, rfl⟩⟩; refine ⟨_, rfl, ?_⟩))
      go_ret
      exact ⟨by first | rfl | (simp; done) | (simp [*]; done), by repeat (first | exact Drawn0.refl _ | apply Drawn0.step)⟩
  · replace c5 := Bool.eq_false_iff.mpr c5
    subst c5
    have H1 : (if t105 = true then (some 1) else (if a0 < a1 then (some (-1)) else (if a0 > a1 then (some 1) else (some 0)))) = some r := by rw [if_neg (show ¬ (false = true) by decide)] at H; exact H
    clear H
    have H := H1
    clear H1
    by_cases c7 : t105 = true
    · subst c7
      have H1 : (some 1) = some r := by rw [if_pos rfl] at H; exact H
      clear H
      have H := H1
      clear H1
      obtain rfl := Option.some.inj H
      go_enter Try.func51, Try.ntmps51
      go_wp2_with (first | ((with_reducible refine gate_callee (f := 60) rfl ?_); refine goesL_ (some 8) rfl rfl Try.func60 (by kernel_rfl) rfl #[.int .u32 a0] rfl (by (try simp only [List.map_toArray, List.map_cons, List.map_nil]); first | done | rfl | (simp only [List.length_drop, List.length_take]; rfl)) ?_; (with_reducible refine (cmp_isNaN_uint32.calls a0 false _ A3.out).mono ?_); rintro e w' ⟨rfl, ⟨nd, rfl⟩⟩; refine ⟨_, rfl, ?_⟩) | ((with_reducible refine gate_callee (f := 60) rfl ?_); refine goesL_ (some 10) rfl rfl Try.func60 (by kernel_rfl) rfl #[.int .u32 a1] rfl (by (try simp only [List.map_toArray, List.map_cons, List.map_nil]); first | done | rfl | (simp only [List.length_drop, List.length_take]; rfl)) ?_; (with_reducible refine (cmp_isNaN_uint32.calls a1 true _ A4.out).mono ?_); rintro e w' ⟨rfl, ⟨nd, rfl⟩⟩; refine ⟨_, rfl, ?_⟩))
      go_ret
      exact ⟨by first | rfl | (simp; done) | (simp [*]; done), by repeat (first | exact Drawn0.refl _ | apply Drawn0.step)⟩
    · replace c7 := Bool.eq_false_iff.mpr c7
      subst c7
      have H1 : (if a0 < a1 then (some (-1)) else (if a0 > a1 then (some 1) else (some 0))) = some r := by rw [if_neg (show ¬ (false = true) by decide)] at H; exact H
      clear H
      have H := H1
      clear H1
      by_cases c8 : a0 < a1
      · rw [if_pos c8] at H
        have c8b0 : decide (a0 < a1) = true := decide_eq_true c8
        clear c8
        obtain rfl := Option.some.inj H
        go_enter Try.func51, Try.ntmps51
        go_wp2_with (first | ((with_reducible refine gate_callee (f := 60) rfl ?_); refine goesL_ (some 8) rfl rfl Try.func60 (by kernel_rfl) rfl #[.int .u32 a0] rfl (by (try simp only [List.map_toArray, List.map_cons, List.map_nil]); first | done | rfl | (simp only [List.length_drop, List.length_take]; rfl)) ?_; (with_reducible refine (cmp_isNaN_uint32.calls a0 false _ A3.out).mono ?_); rintro e w' ⟨rfl, ⟨nd, rfl⟩⟩; refine ⟨_, rfl, ?_⟩) | ((with_reducible refine gate_callee (f := 60) rfl ?_); refine goesL_ (some 10) rfl rfl Try.func60 (by kernel_rfl) rfl #[.int .u32 a1] rfl (by (try simp only [List.map_toArray, List.map_cons, List.map_nil]); first | done | rfl | (simp only [List.length_drop, List.length_take]; rfl)) ?_; (with_reducible refine (cmp_isNaN_uint32.calls a1 false _ A4.out).mono ?_); rintro e w' ⟨rfl, ⟨nd, rfl⟩⟩; refine ⟨_, rfl, ?_⟩))
        go_ret
        exact ⟨by first | rfl | (simp; done) | (simp [*]; done), by repeat (first | exact Drawn0.refl _ | apply Drawn0.step)⟩
      · rw [if_neg c8] at H
        have c8b0 : decide (a0 < a1) = false := decide_eq_false c8
        clear c8
        by_cases c9 : a0 > a1
        · rw [if_pos c9] at H
          have c9b0 : decide (a1 < a0) = true := decide_eq_true c9
          clear c9
          obtain rfl := Option.some.inj H
          go_enter Try.func51, Try.ntmps51
          go_wp2_with (first | ((with_reducible refine gate_callee (f := 60) rfl ?_); refine goesL_ (some 8) rfl rfl Try.func60 (by kernel_rfl) rfl #[.int .u32 a0] rfl (by (try simp only [List.map_toArray, List.map_cons, List.map_nil]); first | done | rfl | (simp only [List.length_drop, List.length_take]; rfl)) ?_; (with_reducible refine (cmp_isNaN_uint32.calls a0 false _ A3.out).mono ?_); rintro e w' ⟨rfl, ⟨nd, rfl⟩⟩; refine ⟨_, rfl, ?_⟩) | ((with_reducible refine gate_callee (f := 60) rfl ?_); refine goesL_ (some 10) rfl rfl Try.func60 (by kernel_rfl) rfl #[.int .u32 a1] rfl (by (try simp only [List.map_toArray, List.map_cons, List.map_nil]); first | done | rfl | (simp only [List.length_drop, List.length_take]; rfl)) ?_; (with_reducible refine (cmp_isNaN_uint32.calls a1 false _ A4.out).mono ?_); rintro e w' ⟨rfl, ⟨nd, rfl⟩⟩; refine ⟨_, rfl, ?_⟩))
          go_ret
          exact ⟨by first | rfl | (simp; done) | (simp [*]; done), by repeat (first | exact Drawn0.refl _ | apply Drawn0.step)⟩
        · rw [if_neg c9] at H
          have c9b0 : decide (a1 < a0) = false := decide_eq_false c9
          clear c9
          obtain rfl := Option.some.inj H
          go_enter Try.func51, Try.ntmps51
          go_wp2_with (first | ((with_reducible refine gate_callee (f := 60) rfl ?_); refine goesL_ (some 8) rfl rfl Try.func60 (by kernel_rfl) rfl #[.int .u32 a0] rfl (by (try simp only [List.map_toArray, List.map_cons, List.map_nil]); first | done | rfl | (simp only [List.length_drop, List.length_take]; rfl)) ?_; (with_reducible refine (cmp_isNaN_uint32.calls a0 false _ A3.out).mono ?_); rintro e w' ⟨rfl, ⟨nd, rfl⟩⟩; refine ⟨_, rfl, ?_⟩) | ((with_reducible refine gate_callee (f := 60) rfl ?_); refine goesL_ (some 10) rfl rfl Try.func60 (by kernel_rfl) rfl #[.int .u32 a1] rfl (by (try simp only [List.map_toArray, List.map_cons, List.map_nil]); first | done | rfl | (simp only [List.length_drop, List.length_take]; rfl)) ?_; (with_reducible refine (cmp_isNaN_uint32.calls a1 false _ A4.out).mono ?_); rintro e w' ⟨rfl, ⟨nd, rfl⟩⟩; refine ⟨_, rfl, ?_⟩))
          go_ret
          exact ⟨by first | rfl | (simp; done) | (simp [*]; done), by repeat (first | exact Drawn0.refl _ | apply Drawn0.step)⟩

/-! ### wos_order: function 35 -/
def wos_order.f (k : Nat) (a0_0 : Int) (a0_1 : Int) (a1_0 : Int) (a1_1 : Int) : Option (Int) := (cmp_Compare_uint64.f a0_0 a1_0).bind fun t108 => ((cmp_Compare_uint32.f a0_1 a1_1).bind fun t109 => ((cmp_Or_int.f k (([t108, t109] : List Int))).bind fun t113 => (some t113)))
theorem wos_order.mono : ∀ a0 a1 a2 a3 k, LeO (wos_order.f k a0 a1 a2 a3) (wos_order.f (k + 1) a0 a1 a2 a3) := by
  intro a0 a1 a2 a3 k
  unfold wos_order.f
  repeat' first
      | (with_reducible exact cmp_Or_int.mono _ _)
      | (with_reducible exact LeO.refl _)
      | (with_reducible exact LeO.none _)
      | (with_reducible refine LeO.ite ?_ ?_)
      | (with_reducible refine LeO.bind ?_ (fun _ => ?_))
      | exact cmp_Or_int.mono _ _
      | exact LeO.none _
      | refine LeO.ite ?_ ?_
      | refine LeO.bind ?_ (fun _ => ?_)
def wos_order.T1 : Bool × List (List Nat × List Nat) := (true, [([], []), ([0], [0]), ([], []), ([2], [2]), ([1, 3], [1, 3]), ([], []), ([5], [5]), ([], []), ([7], [7]), ([6, 8, 4], [6, 8]), ([4, 9], [4, 9]), ([10, 9], [10]), ([11, 11, 0, 1, 2, 3, 4, 5, 6, 7, 8, 9, 10, 11], [11])])
def wos_order.B1 : List Nat := [0, 1, 0, 4, 15, 0, 32, 0, 128, 511, 1023, 2047, 4095]
theorem wos_order.tab1 : rtab .any (opsOf Try.f35 1) = wos_order.T1 := by kernel_rfl
theorem wos_order.bits1 : waitsOk wos_order.T1.2 wos_order.B1 = true := by kernel_rfl
set_option maxHeartbeats 8000000 in
set_option maxRecDepth 100000 in
theorem wos_order.calls (k : Nat) (a0_0 : Int) (a0_1 : Int) (a1_0 : Int) (a1_1 : Int) (r : Int) (w : World) (h : wos_order.f k a0_0 a0_1 a1_0 a1_1 = some r) :
    Calls Try.prog 35 #[.agg #[.int .u64 a0_0, .int .u32 a0_1], .agg #[.int .u64 a1_0, .int .u32 a1_1]] w fun e w' => e = .returned (.int .i64 r) ∧ Below w.heap.size w w' := by
  have hu25 := Try.underlying25
  have HB := Aside0.mk (Below.refl w.heap.size w)
  have H : ((cmp_Compare_uint64.f a0_0 a1_0).bind fun t108 => ((cmp_Compare_uint32.f a0_1 a1_1).bind fun t109 => ((cmp_Or_int.f k (([t108, t109] : List Int))).bind fun t113 => (some t113)))) = some r := h
  clear h
  replace H := Option.bind_eq_some_iff.mp H
  obtain ⟨t108, A30, H⟩ := H
  replace H : ((cmp_Compare_uint32.f a0_1 a1_1).bind fun t109 => ((cmp_Or_int.f k (([t108, t109] : List Int))).bind fun t113 => (some t113))) = some r := H
  have A3 := Aside0.mk A30
  clear A30
  replace H := Option.bind_eq_some_iff.mp H
  obtain ⟨t109, A40, H⟩ := H
  replace H : ((cmp_Or_int.f k (([t108, t109] : List Int))).bind fun t113 => (some t113)) = some r := H
  have A4 := Aside0.mk A40
  clear A40
  obtain ⟨y110, hy110⟩ : ∃ y_ : List Int, y_ = (([t108, t109] : List Int)) := ⟨_, rfl⟩
  replace H : ((cmp_Or_int.f k y110).bind fun t113 => (some t113)) = some r := by first | (rw [hy110]; with_reducible exact H) | (have H2_ := (Option.bind_some _ _).symm.trans H; rw [hy110]; with_reducible exact H2_) | (have H2_ := (Option.bind_some _ _).symm.trans H; with_reducible exact H2_) | with_reducible exact H | (rw [hy110]; exact H) | exact H
  have Ny110 := Aside0.mk hy110
  clear hy110
  replace H := Option.bind_eq_some_iff.mp H
  obtain ⟨t113, A50, H⟩ := H
  replace H : (some t113) = some r := H
  have A5 := Aside0.mk A50
  clear A50
  obtain rfl := Option.some.inj H
  go_enter Try.func35, Try.ntmps35
  try go_wp2_with (first | ((with_reducible refine gate_dst (N := 2) rfl ?_); refine box_event ?hg (N := 2) ?hd (cs := #[.int .u64 a0_0, .int .u32 a0_1]) (t := 25) ?hr ?_; (case hd => rfl); (case hg => rfl); (case hr => first | (go_simp; done) | (go_simp; rfl)); intro gb106 hg w6 hbox hb; have n0_ := Aside0.mk (below_step (by repeat (first | (with_reducible first | exact HB.out | apply below_alloc | apply pw_below_drewN | apply below_drew1) | exact HB.out)) hb); have n1_ := Aside0.mk (hbox); have n2_ := Aside0.mk ((by rw [hg]; exact (below_size (by repeat (first | (with_reducible first | exact HB.out | apply below_alloc | apply pw_below_drewN | apply below_drew1) | exact HB.out))) : w.heap.size ≤ gb106)); have n3_ := Aside0.mk ((by rw [hg]; exact (below_size (by repeat (first | (with_reducible first | exact HB.out | apply below_alloc | apply pw_below_drewN | apply below_drew1) | exact HB.out))) : w.heap.size ≤ gb106)); clear HB; have HB := n0_; have BK106 := n1_; have GW106 := n2_; have GE106 := n3_; clear n0_ n1_ n2_ n3_; clear hb hbox hg) | ((with_reducible refine gate_dst (N := 3) rfl ?_); refine box_event ?hg (N := 3) ?hd (cs := #[.int .u64 a1_0, .int .u32 a1_1]) (t := 25) ?hr ?_; (case hd => rfl); (case hg => rfl); (case hr => first | (go_simp; done) | (go_simp; rfl)); intro gb107 hg w7 hbox hb; have n0_ := Aside0.mk (blk_below (g := gb106) (o := .cells #[.int .u64 a0_0, .int .u32 a0_1] 25 (0, 0)) (by (with_reducible repeat (first | refine blk_drewN ?_ _ | refine blk_drew ?_ | refine blk_alloc ?_ _)); exact BK106.out) hb); have n1_ := Aside0.mk (below_step (by repeat (first | (with_reducible first | exact HB.out | apply below_alloc | apply pw_below_drewN | apply below_drew1 | refine below_set ?_ GE106.out) | exact HB.out)) hb); have n2_ := Aside0.mk (hbox); have n3_ := Aside0.mk ((by rw [hg]; exact (below_size (by repeat (first | (with_reducible first | exact HB.out | apply below_alloc | apply pw_below_drewN | apply below_drew1 | refine below_set ?_ GE106.out) | exact HB.out))) : w.heap.size ≤ gb107)); have n4_ := Aside0.mk ((by rw [hg]; exact (below_size (by repeat (first | (with_reducible first | exact HB.out | apply below_alloc | apply pw_below_drewN | apply below_drew1 | refine below_set ?_ GE106.out) | exact HB.out))) : w.heap.size ≤ gb107)); have n5_ := Aside0.mk ((by rw [hg]; exact Nat.ne_of_lt (blk_lt (g := gb106) (o := .cells #[.int .u64 a0_0, .int .u32 a0_1] 25 (0, 0)) (by (with_reducible repeat (first | refine blk_drewN ?_ _ | refine blk_drew ?_ | refine blk_alloc ?_ _)); exact BK106.out)) : gb106 ≠ gb107)); have n6_ := Aside0.mk ((by rw [hg]; exact Nat.ne_of_gt (blk_lt (g := gb106) (o := .cells #[.int .u64 a0_0, .int .u32 a0_1] 25 (0, 0)) (by (with_reducible repeat (first | refine blk_drewN ?_ _ | refine blk_drew ?_ | refine blk_alloc ?_ _)); exact BK106.out)) : gb107 ≠ gb106)); clear BK106; clear HB; have BK106 := n0_; have HB := n1_; have BK107 := n2_; have GW107 := n3_; have GE107 := n4_; have NB106_107 := n5_; have NB107_106 := n6_; clear n0_ n1_ n2_ n3_ n4_ n5_ n6_; clear hb hbox hg))
  have n0_ := Aside0.mk (blk_drew BK106.out)
  have n1_ := Aside0.mk (blk_drew BK107.out)
  have n2_ := Aside0.mk (below_drew1 HB.out)
  clear BK106
  clear BK107
  clear HB
  have BK106 := n0_
  have BK107 := n1_
  have HB := n2_
  clear n0_ n1_ n2_
  refine start_ (n := 13) (S := fun w' => w'.cell? ⟨gb106, 0, none⟩ = some (.int .u64 a0_0) ∧ w'.cell? ⟨gb106, 1, none⟩ = some (.int .u32 a0_1) ∧ w'.cell? ⟨gb107, 0, none⟩ = some (.int .u64 a1_0) ∧ w'.cell? ⟨gb107, 1, none⟩ = some (.int .u32 a1_1)) (ds := []) #[false, false, false, false, false, false, false, false, false, false, false, false, false] (by kernel_rfl) rfl rfl ⟨(blk_cell BK106.out 0).trans rfl, (blk_cell BK106.out 1).trans rfl, (blk_cell BK107.out 0).trans rfl, (blk_cell BK107.out 1).trans rfl⟩ (fun hHeld => ?_); refine with_tabW wos_order.tab1 wos_order.bits1 (fun HT_ HW_ => ?_)
  generalize w7.drew = w8 at BK106 BK107 HB hHeld ⊢
  refine pure_ (i := 0) (N := some 5) (v := ?_) (a' := ?_) #[true, false, false, false, false, false, false, false, false, false, false, false, false] rfl rfl (any_of HT_.out (by kernel_rfl)) (fun _ _ _ h => h) (Or.inl ⟨by rfl, ?_⟩) ?_ ?_
  rotate_left
  · intro w'
    go_simp
    with_reducible rfl
  rotate_left
  · simp only [Act.put, List.setIfInBounds_toArray, List.set_cons_zero, List.set_cons_succ, i64_w, i32_w]
    rfl
  refine pure_ (i := 2) (N := some 7) (v := ?_) (a' := ?_) #[true, false, true, false, false, false, false, false, false, false, false, false, false] rfl rfl (any_of HT_.out (by kernel_rfl)) (fun _ _ _ h => h) (Or.inl ⟨by rfl, ?_⟩) ?_ ?_
  rotate_left
  · intro w'
    go_simp
    with_reducible rfl
  rotate_left
  · simp only [Act.put, List.setIfInBounds_toArray, List.set_cons_zero, List.set_cons_succ, i64_w, i32_w]
    rfl
  refine pure_ (i := 5) (N := some 10) (v := ?_) (a' := ?_) #[true, false, true, false, false, true, false, false, false, false, false, false, false] rfl rfl (any_of HT_.out (by kernel_rfl)) (fun _ _ _ h => h) (Or.inl ⟨by rfl, ?_⟩) ?_ ?_
  rotate_left
  · intro w'
    go_simp
    with_reducible rfl
  rotate_left
  · simp only [Act.put, List.setIfInBounds_toArray, List.set_cons_zero, List.set_cons_succ, i64_w, i32_w]
    rfl
  refine pure_ (i := 7) (N := some 12) (v := ?_) (a' := ?_) #[true, false, true, false, false, true, false, true, false, false, false, false, false] rfl rfl (any_of HT_.out (by kernel_rfl)) (fun _ _ _ h => h) (Or.inl ⟨by rfl, ?_⟩) ?_ ?_
  rotate_left
  · intro w'
    go_simp
    with_reducible rfl
  rotate_left
  · simp only [Act.put, List.setIfInBounds_toArray, List.set_cons_zero, List.set_cons_succ, i64_w, i32_w]
    rfl
  refine take_ (i := 1) (N := some 6) (v := ?_) (a' := ?_) #[true, true, true, false, false, true, false, true, false, false, false, false, false] rfl rfl (take_ofW HT_.out HW_.out (by kernel_rfl)) (fun _ _ _ h => h) (Or.inl ⟨by rfl, ?_⟩) hHeld ?_ ?_
  rotate_left
  · rintro w' ⟨s0, s1, s2, s3⟩
    go_simp
    with_reducible rfl
  rotate_left
  · simp only [Act.put, List.setIfInBounds_toArray, List.set_cons_zero, List.set_cons_succ, i64_w, i32_w]
    rfl
  refine take_ (i := 3) (N := some 8) (v := ?_) (a' := ?_) #[true, true, true, true, false, true, false, true, false, false, false, false, false] rfl rfl (take_ofW HT_.out HW_.out (by kernel_rfl)) (fun _ _ _ h => h) (Or.inl ⟨by rfl, ?_⟩) hHeld ?_ ?_
  rotate_left
  · rintro w' ⟨s0, s1, s2, s3⟩
    go_simp
    with_reducible rfl
  rotate_left
  · simp only [Act.put, List.setIfInBounds_toArray, List.set_cons_zero, List.set_cons_succ, i64_w, i32_w]
    rfl
  refine take_ (i := 6) (N := some 11) (v := ?_) (a' := ?_) #[true, true, true, true, false, true, true, true, false, false, false, false, false] rfl rfl (take_ofW HT_.out HW_.out (by kernel_rfl)) (fun _ _ _ h => h) (Or.inl ⟨by rfl, ?_⟩) hHeld ?_ ?_
  rotate_left
  · rintro w' ⟨s0, s1, s2, s3⟩
    go_simp
    with_reducible rfl
  rotate_left
  · simp only [Act.put, List.setIfInBounds_toArray, List.set_cons_zero, List.set_cons_succ, i64_w, i32_w]
    rfl
  refine take_ (i := 8) (N := some 13) (v := ?_) (a' := ?_) #[true, true, true, true, false, true, true, true, true, false, false, false, false] rfl rfl (take_ofW HT_.out HW_.out (by kernel_rfl)) (fun _ _ _ h => h) (Or.inl ⟨by rfl, ?_⟩) hHeld ?_ ?_
  rotate_left
  · rintro w' ⟨s0, s1, s2, s3⟩
    go_simp
    with_reducible rfl
  rotate_left
  · simp only [Act.put, List.setIfInBounds_toArray, List.set_cons_zero, List.set_cons_succ, i64_w, i32_w]
    rfl
  refine one_ (i := 4) (N := some 9) #[true, true, true, true, true, true, true, true, true, false, false, false, false] rfl rfl (one_of HT_.out (by kernel_rfl)) (by decide) (fun K hK => ?_)
  refine goes_ Try.func50 (by kernel_rfl) rfl #[.int .u64 a0_0, .int .u64 a1_0] (by rfl) rfl rfl (by (try simp only [List.map_toArray, List.map_cons, List.map_nil]); first | done | rfl | (simp only [List.length_drop, List.length_take]; rfl)) ?_
  with_reducible refine (cmp_Compare_uint64.calls a0_0 a1_0 t108 _ A3.out).mono ?_
  rintro e w' ⟨rfl, ⟨nd, rfl⟩⟩
  refine ⟨_, rfl, ?_⟩
  refine hK.out _ _ ⟨(blk_cell BK106.out 0).trans rfl, (blk_cell BK106.out 1).trans rfl, (blk_cell BK107.out 0).trans rfl, (blk_cell BK107.out 1).trans rfl⟩ (fun hHeld => ?_)
  clear hK K
  refine norm_ (a' := ?_) ?_ ?_
  rotate_left
  · show Act.put _ (some 9) _ = _
    simp only [Act.put, List.setIfInBounds_toArray, List.set_cons_zero, List.set_cons_succ, i64_w, i32_w]
    rfl
  refine one_ (i := 9) (N := some 14) #[true, true, true, true, true, true, true, true, true, true, false, false, false] rfl rfl (one_of HT_.out (by kernel_rfl)) (by decide) (fun K hK => ?_)
  refine goes_ Try.func51 (by kernel_rfl) rfl #[.int .u32 a0_1, .int .u32 a1_1] (by rfl) rfl rfl (by (try simp only [List.map_toArray, List.map_cons, List.map_nil]); first | done | rfl | (simp only [List.length_drop, List.length_take]; rfl)) ?_
  with_reducible refine (cmp_Compare_uint32.calls a0_1 a1_1 t109 _ A4.out).mono ?_
  rintro e w' ⟨rfl, ⟨nd, rfl⟩⟩
  refine ⟨_, rfl, ?_⟩
  refine hK.out _ _ ⟨(blk_cell BK106.out 0).trans rfl, (blk_cell BK106.out 1).trans rfl, (blk_cell BK107.out 0).trans rfl, (blk_cell BK107.out 1).trans rfl⟩ (fun hHeld => ?_)
  clear hK K
  refine norm_ (a' := ?_) ?_ ?_
  rotate_left
  · show Act.put _ (some 14) _ = _
    simp only [Act.put, List.setIfInBounds_toArray, List.set_cons_zero, List.set_cons_succ, i64_w, i32_w]
    rfl
  refine one_ (i := 10) (N := some 15) #[true, true, true, true, true, true, true, true, true, true, true, false, false] rfl rfl (one_of HT_.out (by kernel_rfl)) (by decide) (fun K hK => ?_)
  refine Kd.R_lit_step (Kd.int .i64) _ 3 ?hg (N := 15) ?hd (xs := ([t108, t109] : List Int)) (inner := [.int .i64 t108, .int .i64 t109]) (ok := fun _ => True) (okp := fun _ => True) ?hr ?hp (fun _ hk => hk) trivial (Below.refl _ _) (Nat.le_refl _) (by simp) ?_; (case hd => rfl); (case hg => rfl); (case hr => first | (go_simp; done) | (go_simp; rfl)); (case hp => exact (Reps.one (show Kd.M (Kd.int .i64) _ _ _ t108 [.int .i64 t108] from rfl) (Reps.one (show Kd.M (Kd.int .i64) _ _ _ t109 [.int .i64 t109] from rfl) (Reps.none _ _))))
  intro v111 w9 ho10 hb hg_ hnew_
  clear hg_ hnew_
  (first | rw [← Ny110.out] at ho10 | (simp only [Int.reduceToNat] at ho10; rw [← Ny110.out] at ho10))
  have n0_ := Aside0.mk (Kd.R_lower ho10 (below_size (by repeat (first | (with_reducible first | exact HB.out | apply below_alloc | apply pw_below_drewN | apply below_drew1 | refine below_set ?_ GE106.out | refine below_set ?_ GE107.out) | exact HB.out))))
  have n1_ := Aside0.mk (blk_below (g := gb106) (o := .cells #[.int .u64 a0_0, .int .u32 a0_1] 25 (0, 0)) (by (with_reducible repeat (first | refine blk_drewN ?_ _ | refine blk_drew ?_ | refine blk_alloc ?_ _)); exact BK106.out) hb)
  have n2_ := Aside0.mk (blk_below (g := gb107) (o := .cells #[.int .u64 a1_0, .int .u32 a1_1] 25 (0, 0)) (by (with_reducible repeat (first | refine blk_drewN ?_ _ | refine blk_drew ?_ | refine blk_alloc ?_ _)); exact BK107.out) hb)
  have n3_ := Aside0.mk (below_step (by repeat (first | (with_reducible first | exact HB.out | apply below_alloc | apply pw_below_drewN | apply below_drew1 | refine below_set ?_ GE106.out | refine below_set ?_ GE107.out) | exact HB.out)) hb)
  clear BK106
  clear BK107
  clear HB
  have HO112 := n0_
  have BK106 := n1_
  have BK107 := n2_
  have HB := n3_
  clear n0_ n1_ n2_ n3_
  clear hb ho10
  obtain ⟨Ao11, co11, eo11⟩ := Kd.R_slice HO112.out
  (first | subst eo11 | (injection eo11 with f1_ f2_ f3_; have f4_ := f1_.symm; have f5_ := f3_.symm; clear f1_ f2_ f3_; subst f4_; subst f5_))
  refine hK.out _ _ ⟨(blk_cell BK106.out 0).trans rfl, (blk_cell BK106.out 1).trans rfl, (blk_cell BK107.out 0).trans rfl, (blk_cell BK107.out 1).trans rfl⟩ (fun hHeld => ?_)
  clear hK K
  refine norm_ (a' := ?_) ?_ ?_
  rotate_left
  · show Act.put _ (some 15) _ = _
    simp only [Act.put, List.setIfInBounds_toArray, List.set_cons_zero, List.set_cons_succ, i64_w, i32_w]
    rfl
  refine one_ (i := 11) (N := some 16) #[true, true, true, true, true, true, true, true, true, true, true, true, false] rfl rfl (one_of HT_.out (by kernel_rfl)) (by decide) (fun K hK => ?_)
  refine goes_ Try.func49 (by kernel_rfl) rfl #[.slice Ao11 y110.length co11] (by rfl) rfl rfl (by (try simp only [List.map_toArray, List.map_cons, List.map_nil]); first | done | rfl | (simp only [List.length_drop, List.length_take]; rfl)) ?_
  with_reducible refine (cmp_Or_int.calls k _ _ y110 t113 _ ?side1 ?side2 A5.out).mono ?_
  (case side1 => repeat (first | exact (Kd.R_reads' HO112.out).2.2 | (with_reducible refine Kd.C_alloc ?_ _) | (with_reducible refine Kd.C_drewN ?_ _) | (with_reducible refine Kd.C_drew ?_)))
  (case side2 => exact (Kd.R_reads' HO112.out).2.1)
  rintro e w' ⟨rfl, ⟨nd, rfl⟩⟩
  refine ⟨_, rfl, ?_⟩
  refine hK.out _ _ ⟨(blk_cell BK106.out 0).trans rfl, (blk_cell BK106.out 1).trans rfl, (blk_cell BK107.out 0).trans rfl, (blk_cell BK107.out 1).trans rfl⟩ (fun hHeld => ?_)
  clear hK K
  refine norm_ (a' := ?_) ?_ ?_
  rotate_left
  · show Act.put _ (some 16) _ = _
    simp only [Act.put, List.setIfInBounds_toArray, List.set_cons_zero, List.set_cons_succ, i64_w, i32_w]
    rfl
  refine pure_ (i := 12) (N := some 4) (v := ?_) (a' := ?_) #[true, true, true, true, true, true, true, true, true, true, true, true, true] rfl rfl (any_of HT_.out (by kernel_rfl)) (fun _ _ _ h => h) (Or.inl ⟨by rfl, ?_⟩) ?_ ?_
  rotate_left
  · intro w'
    go_simp
    with_reducible rfl
  rotate_left
  · simp only [Act.put, List.setIfInBounds_toArray, List.set_cons_zero, List.set_cons_succ, i64_w, i32_w]
    rfl
  refine done_ (done_of HT_.out (by kernel_rfl)) ?_
  try go_wp2
  go_ret
  exact ⟨by first | rfl | (simp [errW_none, errW_some] <;> rfl) | (simp [*, errW_none, errW_some] <;> rfl), by repeat (first | (with_reducible first | exact HB.out | apply below_alloc | apply pw_below_drewN | apply below_drew1 | refine below_set ?_ GE106.out | refine below_set ?_ GE107.out) | exact HB.out)⟩

end Go.Proofs.Ytacacigpendneaa.QO
/- The order of names, as wos.order tells it. -/
namespace Go.Proofs.Ytacacigpendneaa.QV
open Go.RowKit Go.Proofs.YtacacigpendneaaW.PrintWords Go.Proofs.Ytacacigpendneaa.SeqW Go.Proofs.Ytacacigpendneaa.Mp
set_option linter.unusedVariables false
set_option linter.unusedSimpArgs false
set_option maxRecDepth 100000
/-- W is w, with draws and new blocks. -/
def Gr (w W : World) : Prop := ∃ q os, W = Sort.grow (w.drewN q) os
theorem Gr.refl (w : World) : Gr w w := ⟨0, #[], by rw [Sort.grow_empty]; rfl⟩
theorem Gr.trans {a b c : World} (h : Gr a b) (k : Gr b c) : Gr a c := by
  obtain ⟨q, os, rfl⟩ := h
  obtain ⟨q', os', rfl⟩ := k
  refine ⟨q + q', os ++ os', ?_⟩
  simp only [Sort.grow, World.drewN, Array.append_assoc, Nat.add_assoc]
theorem Gr.alloc {a b : World} (h : Gr a b) (o : Obj) : Gr a (b.alloc o) := h.trans ⟨0, #[o], by rw [Sort.alloc_eq_grow]; rfl⟩
theorem Gr.drew {a b : World} (h : Gr a b) : Gr a b.drew := h.trans ⟨1, #[], by rw [Sort.grow_empty]; rfl⟩
theorem Gr.drawn0 {a b c : World} (h : Gr a b) (k : Drawn0 b c) : Gr a c := by
  obtain ⟨n, rfl⟩ := k.out
  exact h.trans ⟨n, #[], by rw [Sort.grow_empty]⟩
theorem Gr.below {a b : World} (h : Gr a b) : Below a.heap.size a b := by
  obtain ⟨q, os, rfl⟩ := h
  exact ⟨rfl, rfl, rfl, by simp [Sort.grow, World.drewN], fun k hk => by simp only [Sort.grow, World.drewN]; exact Array.getElem?_append_left hk⟩
def cU (a b : Int) : Int := if a < b then -1 else if b < a then 1 else 0
/-- The order of names. -/
def cmpNm (a b : Nm) : Int := if cU a.f0 b.f0 = 0 then cU a.f1 b.f1 else cU a.f0 b.f0
theorem cmp64_f (a b : Int) : QO.cmp_Compare_uint64.f a b = some (cU a b) := by
  unfold cU
  have e : (a != a) = false := by simp
  have e' : (b != b) = false := by simp
  by_cases h1 : a < b
  · simp [QO.cmp_Compare_uint64.f, QO.cmp_isNaN_uint64.f, h1]
  · by_cases h2 : b < a
    · simp [QO.cmp_Compare_uint64.f, QO.cmp_isNaN_uint64.f, if_neg h1, if_pos h2]
    · simp [QO.cmp_Compare_uint64.f, QO.cmp_isNaN_uint64.f, if_neg h1, if_neg h2]
theorem cmp32_f (a b : Int) : QO.cmp_Compare_uint32.f a b = some (cU a b) := by
  unfold cU
  have e : (a != a) = false := by simp
  have e' : (b != b) = false := by simp
  by_cases h1 : a < b
  · simp [QO.cmp_Compare_uint32.f, QO.cmp_isNaN_uint32.f, h1]
  · by_cases h2 : b < a
    · simp [QO.cmp_Compare_uint32.f, QO.cmp_isNaN_uint32.f, if_neg h1, if_pos h2]
    · simp [QO.cmp_Compare_uint32.f, QO.cmp_isNaN_uint32.f, if_neg h1, if_neg h2]
theorem or_f (a b : Int) : QO.cmp_Or_int.f 3 [a, b] = some (if a = 0 then b else a) := by
  simp [QO.cmp_Or_int.f, QO.cmp_Or_int.l0, rd, wrap64]
  (repeat split) <;> first | rfl | omega | simp_all

set_option maxHeartbeats 4000000 in
theorem order_any (a b : Nm) (w : World) :
    Calls Try.prog 35 #[.agg #[.int .u64 a.f0, .int .u32 a.f1], .agg #[.int .u64 b.f0, .int .u32 b.f1]] w fun e w' => e = .returned (.int .i64 (cmpNm a b)) ∧ Gr w w' := by
  go_enter Try.func35, Try.ntmps35
  go_wp2
  refine wp_at (S := fun W => Gr w W ∧ W.heap[w.heap.size]? = some (.cells #[.int .u64 a.f0, .int .u32 a.f1] tNm (0, 0)) ∧ W.heap[w.heap.size + 1]? = some (.cells #[.int .u64 b.f0, .int .u32 b.f1] tNm (0, 0))) ⟨((Gr.refl w).alloc _).alloc _, blk_alloc (blk_new w _) _, ?_⟩ ?_
  · have := blk_new (w.alloc (.cells #[.int .u64 a.f0, .int .u32 a.f1] tNm)) (.cells #[.int .u64 b.f0, .int .u32 b.f1] tNm)
    rwa [World.size_alloc] at this
  rintro W0 ⟨hG0, ha, hb⟩
  have S0 : ∀ V, Gr W0 V → V.cell? ⟨w.heap.size, 0, none⟩ = some (.int .u64 a.f0) ∧ V.cell? ⟨w.heap.size, 1, none⟩ = some (.int .u32 a.f1) ∧ V.cell? ⟨w.heap.size + 1, 0, none⟩ = some (.int .u64 b.f0) ∧ V.cell? ⟨w.heap.size + 1, 1, none⟩ = some (.int .u32 b.f1) :=
    fun V hV => ⟨blk_cell (blk_below ha hV.below) 0, blk_cell (blk_below ha hV.below) 1, blk_cell (blk_below hb hV.below) 0, blk_cell (blk_below hb hV.below) 1⟩
  refine (wpIn_wide (n := 0)).1 ?_
  refine wpIn_region_R (l := 0) 13 (S := fun V => V.cell? ⟨w.heap.size, 0, none⟩ = some (.int .u64 a.f0) ∧ V.cell? ⟨w.heap.size, 1, none⟩ = some (.int .u32 a.f1) ∧ V.cell? ⟨w.heap.size + 1, 0, none⟩ = some (.int .u64 b.f0) ∧ V.cell? ⟨w.heap.size + 1, 1, none⟩ = some (.int .u32 b.f1)) (by kernel_rfl) (S0 _ (Gr.refl _).drew) (fun hS0 => ?_)
  refine wpAnyR_take (i := 0) (oi := ⟨some 5, _, _, _, _, _⟩) (v := ?_) (by kernel_rfl) (by kernel_rfl) rfl (by kernel_rfl) (by kernel_rfl) (by kernel_rfl) (fun _ _ _ h => h) (Or.inl ⟨by rfl, ?_⟩) (by assumption) ?_
  rotate_left
  · intro w hSw; (try dsimp only at hSw); (try go_split_ands); go_simp; (try (with_reducible rfl))
  (try simp only [Act.put, List.setIfInBounds_toArray, List.set_cons_zero, List.set_cons_succ])
  refine wpAnyR_take (i := 1) (oi := ⟨some 6, _, _, _, _, _⟩) (v := ?_) (by kernel_rfl) (by kernel_rfl) rfl (by kernel_rfl) (by kernel_rfl) (by kernel_rfl) (fun _ _ _ h => h) (Or.inl ⟨by rfl, ?_⟩) (by assumption) ?_
  rotate_left
  · intro w hSw; (try dsimp only at hSw); (try go_split_ands); go_simp; (try (with_reducible rfl))
  (try simp only [Act.put, List.setIfInBounds_toArray, List.set_cons_zero, List.set_cons_succ])
  refine wpAnyR_take (i := 2) (oi := ⟨some 7, _, _, _, _, _⟩) (v := ?_) (by kernel_rfl) (by kernel_rfl) rfl (by kernel_rfl) (by kernel_rfl) (by kernel_rfl) (fun _ _ _ h => h) (Or.inl ⟨by rfl, ?_⟩) (by assumption) ?_
  rotate_left
  · intro w hSw; (try dsimp only at hSw); (try go_split_ands); go_simp; (try (with_reducible rfl))
  (try simp only [Act.put, List.setIfInBounds_toArray, List.set_cons_zero, List.set_cons_succ])
  refine wpAnyR_take (i := 3) (oi := ⟨some 8, _, _, _, _, _⟩) (v := ?_) (by kernel_rfl) (by kernel_rfl) rfl (by kernel_rfl) (by kernel_rfl) (by kernel_rfl) (fun _ _ _ h => h) (Or.inl ⟨by rfl, ?_⟩) (by assumption) ?_
  rotate_left
  · intro w hSw; (try dsimp only at hSw); (try go_split_ands); go_simp; (try (with_reducible rfl))
  (try simp only [Act.put, List.setIfInBounds_toArray, List.set_cons_zero, List.set_cons_succ])
  refine wpAnyR_take (i := 5) (oi := ⟨some 10, _, _, _, _, _⟩) (v := ?_) (by kernel_rfl) (by kernel_rfl) rfl (by kernel_rfl) (by kernel_rfl) (by kernel_rfl) (fun _ _ _ h => h) (Or.inl ⟨by rfl, ?_⟩) (by assumption) ?_
  rotate_left
  · intro w hSw; (try dsimp only at hSw); (try go_split_ands); go_simp; (try (with_reducible rfl))
  (try simp only [Act.put, List.setIfInBounds_toArray, List.set_cons_zero, List.set_cons_succ])
  refine wpAnyR_take (i := 6) (oi := ⟨some 11, _, _, _, _, _⟩) (v := ?_) (by kernel_rfl) (by kernel_rfl) rfl (by kernel_rfl) (by kernel_rfl) (by kernel_rfl) (fun _ _ _ h => h) (Or.inl ⟨by rfl, ?_⟩) (by assumption) ?_
  rotate_left
  · intro w hSw; (try dsimp only at hSw); (try go_split_ands); go_simp; (try (with_reducible rfl))
  (try simp only [Act.put, List.setIfInBounds_toArray, List.set_cons_zero, List.set_cons_succ])
  refine wpAnyR_take (i := 7) (oi := ⟨some 12, _, _, _, _, _⟩) (v := ?_) (by kernel_rfl) (by kernel_rfl) rfl (by kernel_rfl) (by kernel_rfl) (by kernel_rfl) (fun _ _ _ h => h) (Or.inl ⟨by rfl, ?_⟩) (by assumption) ?_
  rotate_left
  · intro w hSw; (try dsimp only at hSw); (try go_split_ands); go_simp; (try (with_reducible rfl))
  (try simp only [Act.put, List.setIfInBounds_toArray, List.set_cons_zero, List.set_cons_succ])
  refine wpAnyR_take (i := 8) (oi := ⟨some 13, _, _, _, _, _⟩) (v := ?_) (by kernel_rfl) (by kernel_rfl) rfl (by kernel_rfl) (by kernel_rfl) (by kernel_rfl) (fun _ _ _ h => h) (Or.inl ⟨by rfl, ?_⟩) (by assumption) ?_
  rotate_left
  · intro w hSw; (try dsimp only at hSw); (try go_split_ands); go_simp; (try (with_reducible rfl))
  (try simp only [Act.put, List.setIfInBounds_toArray, List.set_cons_zero, List.set_cons_succ])
  refine wpAnyR_one (i := 4) (o := ⟨some 9, _, _, _, _, _⟩) (by kernel_rfl) (by kernel_rfl) rfl (fun K hK => ?_)
  go_simp
  refine (QO.cmp_Compare_uint64.calls a.f0 b.f0 _ _ (cmp64_f _ _)).mono ?_
  rintro e W1 ⟨rfl, hD1⟩
  have hG1 : Gr W0 W1 := ((Gr.refl W0).drew).drawn0 hD1
  (try dsimp only)
  refine hK.out _ _ (.inr (S0 _ hG1)) ?_
  clear hK K
  (try simp only [Act.put, List.setIfInBounds_toArray, List.set_cons_zero, List.set_cons_succ])
  refine wpAnyR_one (i := 9) (o := ⟨some 14, _, _, _, _, _⟩) (by kernel_rfl) (by kernel_rfl) rfl (fun K hK => ?_)
  go_simp
  refine (QO.cmp_Compare_uint32.calls a.f1 b.f1 _ _ (cmp32_f _ _)).mono ?_
  rintro e W2 ⟨rfl, hD2⟩
  have hG2 : Gr W0 W2 := hG1.drawn0 hD2
  (try dsimp only)
  refine hK.out _ _ (.inr (S0 _ hG2)) ?_
  clear hK K
  (try simp only [Act.put, List.setIfInBounds_toArray, List.set_cons_zero, List.set_cons_succ])
  refine wpAnyR_one (i := 10) (o := ⟨some 15, _, _, _, _, _⟩) (by kernel_rfl) (by kernel_rfl) rfl (fun K hK => ?_)
  go_simp
  have hG3 : Gr W0 (W2.alloc (.cells #[.int .i64 (cU a.f0 b.f0), .int .i64 (cU a.f1 b.f1)] 3)) := hG2.alloc _
  refine hK.out _ _ (.inr (S0 _ hG3)) ?_
  clear hK K
  (try simp only [Act.put, List.setIfInBounds_toArray, List.set_cons_zero, List.set_cons_succ])
  have hrd : Kd.C (Kd.int .i64) (W2.alloc (.cells #[.int .i64 (cU a.f0 b.f0), .int .i64 (cU a.f1 b.f1)] 3)) (some ⟨W2.heap.size, 0, none⟩) 2 [cU a.f0 b.f0, cU a.f1 b.f1] := by
    have h := own_lit W2 0 3 .i64 [cU a.f0 b.f0, cU a.f1 b.f1] (Nat.zero_le _) (by simp)
    obtain ⟨A, c, e, hr⟩ := own_reads h
    simp at e
    obtain ⟨rfl, rfl⟩ := e
    exact Kd.C_of_reads hr
  refine wpAnyR_one (i := 11) (o := ⟨some 16, _, _, _, _, _⟩) (by kernel_rfl) (by kernel_rfl) rfl (fun K hK => ?_)
  go_simp
  refine (QO.cmp_Or_int.calls 3 (some ⟨W2.heap.size, 0, none⟩) 2 [cU a.f0 b.f0, cU a.f1 b.f1] _ _ hrd (by simp) (show QO.cmp_Or_int.f 3 [cU a.f0 b.f0, cU a.f1 b.f1] = some (cmpNm a b) from or_f _ _)).mono ?_
  rintro e W4 ⟨rfl, hD4⟩
  have hG4 : Gr W0 W4 := hG3.drawn0 hD4
  (try dsimp only)
  refine hK.out _ _ (.inr (S0 _ hG4)) ?_
  clear hK K
  (try simp only [Act.put, List.setIfInBounds_toArray, List.set_cons_zero, List.set_cons_succ])
  have hS4 := S0 _ hG4
  refine wpAnyR_take (i := 12) (oi := ⟨some 4, _, _, _, _, _⟩) (v := ?_) (by kernel_rfl) (by kernel_rfl) rfl (by kernel_rfl) (by kernel_rfl) (by kernel_rfl) (fun _ _ _ h => h) (Or.inl ⟨by rfl, ?_⟩) (by assumption) ?_
  rotate_left
  · intro w hSw; (try dsimp only at hSw); (try go_split_ands); go_simp; (try (with_reducible rfl))
  (try simp only [Act.put, List.setIfInBounds_toArray, List.set_cons_zero, List.set_cons_succ])
  refine wpAnyR_done (by kernel_rfl) ?_ _
  go_wp2
  go_ret
  exact ⟨rfl, hG0.trans hG4⟩
end Go.Proofs.Ytacacigpendneaa.QV
/- (XSeq, of an iterator whose order is not known) A range over a function, by separation: what an iterator gives (SeqP Pf En: Pf: what may have come; En: what has come at the end), and the law of the statement that ranges over it. M: the blocks that are the consumer's; N: those of what is handed out, if they are new. -/
namespace Go.Proofs.Ytacacigpendneaa.Seq
open Go Go.RowKit
set_option linter.unusedVariables false

/-- B is A but for the blocks of M, and new ones. -/
structure Kpt (M : Nat → Prop) (A B : World) : Prop where
  os : B.os = A.os
  tape : B.tape = A.tape
  output : B.output = A.output
  size : A.heap.size ≤ B.heap.size
  block : ∀ i, i < A.heap.size → ¬ M i → B.heap[i]? = A.heap[i]?
theorem Kpt.refl (M : Nat → Prop) (A : World) : Kpt M A A := ⟨rfl, rfl, rfl, Nat.le_refl _, fun _ _ _ => rfl⟩
theorem Kpt.mono {M M' : Nat → Prop} {A B : World} (h : Kpt M A B) (hm : ∀ i, i < A.heap.size → M i → M' i) : Kpt M' A B := ⟨h.os, h.tape, h.output, h.size, fun i hi hn => h.block i hi (fun k => hn (hm i hi k))⟩
theorem Kpt.trans {M M1 M2 : Nat → Prop} {A B C : World} (h : Kpt M1 A B) (k : Kpt M2 B C) (hm : ∀ i, i < A.heap.size → M1 i ∨ M2 i → M i) : Kpt M A C :=
  ⟨k.os.trans h.os, k.tape.trans h.tape, k.output.trans h.output, Nat.le_trans h.size k.size, fun i hi hn => (k.block i (Nat.lt_of_lt_of_le hi h.size) (fun z => hn (hm i hi (.inr z)))).trans (h.block i hi (fun z => hn (hm i hi (.inl z))))⟩
theorem Kpt.of_below {b : Nat} {A B : World} (h : Below b A B) : Kpt (fun i => b ≤ i) A B := ⟨h.os, h.tape, h.output, h.size, fun i _ hn => h.block i (by omega)⟩
theorem Kpt.of_new {A B : World} (M : Nat → Prop) (h : Below A.heap.size A B) : Kpt M A B := ⟨h.os, h.tape, h.output, h.size, fun i hi _ => h.block i hi⟩
theorem Kpt.below {M : Nat → Prop} {b : Nat} {A B : World} (h : Kpt M A B) (hb : b ≤ A.heap.size) (hm : ∀ i, i < A.heap.size → M i → b ≤ i) : Below b A B := ⟨h.os, h.tape, h.output, h.size, fun i hi => h.block i (by omega) (fun k => by have := hm i (by omega) k; omega)⟩
theorem Kpt.alloc (M : Nat → Prop) (A : World) (o : Obj) : Kpt M A (A.alloc o) := .of_new M ((Below.refl _ A).alloc (Nat.le_refl _) o)
theorem Kpt.drew (M : Nat → Prop) (A : World) : Kpt M A A.drew := ⟨rfl, rfl, rfl, Nat.le_refl _, fun _ _ _ => rfl⟩
theorem Kpt.grown {A B : World} {row : Option Nat} (h : A.grownBy B row) : Kpt (fun i => some i = row) A B := ⟨h.os, h.tape, h.output, h.size, fun i hi hn => h.block i hi hn⟩
theorem Kpt.putObj (A : World) (l : Nat) (o : Obj) : Kpt (fun i => i = l) A (A.putObj l o) := (Kpt.grown (grownBy_putObj' A l o)).mono (fun i _ h => by simpa using h)
theorem Kpt.setCell (A : World) (p : Addr) (v : Value) : Kpt (fun i => i = p.block) A (A.setCell p v) := ⟨rfl, rfl, rfl, by simp, fun i _ hn => Below.heap_setCell _ _ _ i (fun e => hn e)⟩
theorem Kpt.at {M : Nat → Prop} {A B : World} (h : Kpt M A B) {i : Nat} {o : Obj} (hi : A.heap[i]? = some o) (hn : ¬ M i) : B.heap[i]? = some o := (h.block i (Array.getElem?_eq_some_iff.1 hi).1 hn).trans hi

/-- WHAT AN ITERATOR GIVES: whatever the consumer keeps in its own blocks (J, between two rounds; Jx, once it has said 'no more'), if each round takes an element on, the whole list has come, or a beginning of it, at whose last element the consumer has said 'no more'; the iterator has written only what it made itself. -/
def SeqP {α : Type} (P : Program) (g : Nat) (lb : Array Value) (Rd : World → (Nat → Prop) → α → Array Value → Prop) (Pf En : List α → Prop) (w : World) : Prop :=
  ∀ (l : Nat) (J Jx : List α → (Nat → Prop) → World → Prop) (W : World) (M : Nat → Prop),
    Below w.heap.size w W → (∀ i, M i → w.heap.size ≤ i ∧ i < W.heap.size) →
    (∀ pre M A B, J pre M A → Kpt (fun i => W.heap.size ≤ i ∧ ¬ M i) A B → J pre M B) →
    (∀ pre M A B, Jx pre M A → Kpt (fun i => W.heap.size ≤ i ∧ ¬ M i) A B → Jx pre M B) →
    (∀ pre x vs N A M, J pre M A → Pf (pre ++ [x]) → Rd A N x vs → (∀ i, M i → w.heap.size ≤ i ∧ i < A.heap.size) → (∀ i, N i → W.heap.size ≤ i ∧ i < A.heap.size ∧ ¬ M i) → W.heap.size ≤ A.heap.size →
      YieldAt Fence.wide 0 P l vs A fun e B => ∃ M', (∀ i, M' i → (M i ∨ N i ∨ A.heap.size ≤ i) ∧ i < B.heap.size) ∧ Kpt (fun i => M i ∨ N i) A B ∧
        ((e = .returned (.bool true) ∧ J (pre ++ [x]) M' B) ∨ (e = .returned (.bool false) ∧ Jx (pre ++ [x]) M' B))) →
    J [] M W →
    Calls P g (#[.func (.yield l) #[] #[]] ++ lb) W fun e W' => (∃ v, e = .returned v) ∧ ∃ M', (∀ i, M' i → (M i ∨ W.heap.size ≤ i) ∧ i < W'.heap.size) ∧ Kpt M W W' ∧ ((∃ xs, En xs ∧ J xs M' W') ∨ ∃ pre, Pf pre ∧ Jx pre M' W')

/-- How a round's body may be left. -/
def PostS {α : Type} (M N : Nat → Prop) (I : List α → (Nat → Prop) → World → Prop) (Ix : Code → List α → (Nat → Prop) → World → Prop) (xs : List α) (A : World) : Exit → Act → World → Prop
  | .normal, _, B => ∃ M', (∀ i, M' i → (M i ∨ N i ∨ A.heap.size ≤ i) ∧ i < B.heap.size) ∧ Kpt (fun i => M i ∨ N i) A B ∧ I xs M' B
  | .ret, _, B => ∃ M', (∀ i, M' i → (M i ∨ N i ∨ A.heap.size ≤ i) ∧ i < B.heap.size) ∧ Kpt (fun i => M i ∨ N i) A B ∧ Ix .ret xs M' B
  | .exit id, _, B => ∃ M', (∀ i, M' i → (M i ∨ N i ∨ A.heap.size ≤ i) ∧ i < B.heap.size) ∧ Kpt (fun i => M i ∨ N i) A B ∧ Ix (.exit id) xs M' B
  | .goto t, _, B => ∃ M', (∀ i, M' i → (M i ∨ N i ∨ A.heap.size ≤ i) ∧ i < B.heap.size) ∧ Kpt (fun i => M i ∨ N i) A B ∧ Ix (.goto t) xs M' B
  | .panic _, _, _ => False
  | .outgrown, _, _ => False

theorem wpIn_rangeP {α : Type} {P : Program} {n : Nat} {g : Operand} {ps : Array Tmp} {assign body : Code} {Q : Exit → Act → World → Prop} {a : Act} {w : World}
    {gf : Nat} {lb : Array Value} (hg : a.eval g = .func (.func gf) #[] lb) (eg : ∀ args w, (callFunc gf args).run P w = .ok (.enter gf args) w)
    {Rd : World → (Nat → Prop) → α → Array Value → Prop} {Pf En : List α → Prop} {w0 : World} (hseq : SeqP P gf lb Rd Pf En w0) (hb0 : Below w0.heap.size w0 w)
    (hps : ∀ A N x vs, Rd A N x vs → vs.size = ps.size)
    (hRd : ∀ A B N x vs, Rd A N x vs → Kpt (fun i => w0.heap.size ≤ i ∧ ¬ N i) A B → Rd B N x vs)
    (I : List α → (Nat → Prop) → World → Prop) (Ix : Code → List α → (Nat → Prop) → World → Prop)
    (hI : ∀ pre M A B, I pre M A → Kpt (fun i => w.heap.size ≤ i ∧ ¬ M i) A B → I pre M B)
    (hIx : ∀ c pre M A B, Ix c pre M A → Kpt (fun i => w.heap.size ≤ i ∧ ¬ M i) A B → Ix c pre M B)
    (M : Nat → Prop) (hM : ∀ i, M i → w0.heap.size ≤ i ∧ i < w.heap.size) (h0 : I [] M w)
    (Ax : α → Array Value → Act → (Nat → Prop) → World → Prop) (hAx : ∀ x vs a₁ M A B, Ax x vs a₁ M A → Kpt (fun i => w.heap.size ≤ i ∧ ¬ M i) A B → Ax x vs a₁ M B)
    (hassign : ∀ l pre x vs N A M, I pre M A → Pf (pre ++ [x]) → Rd A N x vs → (∀ i, M i → w0.heap.size ≤ i ∧ i < A.heap.size) → (∀ i, N i → w.heap.size ≤ i ∧ i < A.heap.size ∧ ¬ M i) →
      assign.wpIn (Fence.wide.inRound l) 0 P (Exit.then (fun a₁ B => ∃ M', (∀ i, M' i → (M i ∨ A.heap.size ≤ i) ∧ i < B.heap.size) ∧ Kpt M A B ∧ I pre M' B ∧ Ax x vs a₁ M' B) (fun _ _ _ => False))
        { tmps := (ps.zip vs).foldl (fun t (p, v) => t.setIfInBounds p v) a.tmps, defers := [] } A)
    (hbody : ∀ l pre x vs N A M a₁, I pre M A → Pf (pre ++ [x]) → Rd A N x vs → Ax x vs a₁ M A → (∀ i, M i → w0.heap.size ≤ i ∧ i < A.heap.size) → (∀ i, N i → w.heap.size ≤ i ∧ i < A.heap.size ∧ ¬ M i) →
      body.wpIn (Fence.wide.inRound l) 0 P (PostS M N I Ix (pre ++ [x]) A) a₁ A)
    (hdone : ∀ D xs W M', En xs → I xs M' W → Kpt M w W → (∀ i, M' i → (M i ∨ w.heap.size ≤ i) ∧ i < W.heap.size) → W.heap[D]? = some (.deferred (some [])) → w.heap.size ≤ D → ¬ M' D →
      Q .normal { a with defers := { target := .collected D, args := #[] } :: a.defers } W)
    (hstop : ∀ D c pre W M', Pf pre → Ix c pre M' W → Kpt M w W → (∀ i, M' i → (M i ∨ w.heap.size ≤ i) ∧ i < W.heap.size) → W.heap[D]? = some (.deferred (some [])) → w.heap.size ≤ D → ¬ M' D →
      c.wpIn Fence.wide n P Q { a with defers := { target := .collected D, args := #[] } :: a.defers } W) :
    (Code.rangeFunc g ps assign body).wpIn Fence.wide n P Q a w := by
  refine wpIn_rangeFunc ?_
  intro fn hfn
  obtain ⟨rec, hrec⟩ : ∃ rec : LoopState → Option Code → Loop, rec = fun st pe => { state := st, pending := pe, fn, tmps := a.tmps, params := ps, assign, body, defers := w.heap.size } := ⟨_, rfl⟩
  obtain ⟨W1, hW1⟩ : ∃ W1, (w.alloc (.deferred (some []))).alloc (.loop (rec .ready none)) = W1 := ⟨_, rfl⟩
  have hL1 : W1.heap[w.heap.size + 1]? = some (.loop (rec .ready none)) := by
    rw [← hW1]; have := World.alloc_heap_new (w.alloc (.deferred (some []))) (.loop (rec .ready none)); rwa [World.size_alloc] at this
  have hK1 : W1.heap[w.heap.size]? = some (.deferred (some [])) := by
    rw [← hW1]; exact (Below.heap_alloc _ _ _ (by simp)).trans (World.alloc_heap_new w _)
  have hB1 : Below w.heap.size w W1 := by rw [← hW1]; exact ((Below.refl _ w).alloc (Nat.le_refl _) _).alloc (by simp) _
  have hs1 : W1.heap.size = w.heap.size + 2 := by rw [← hW1]; simp
  have hI1 : I [] M W1 := hI _ _ _ _ h0 (.of_new _ hB1)
  have hb1 : Below w0.heap.size w0 W1 := hb0.trans (hB1.mono hb0.size)
  have hw0 : w0.heap.size ≤ w.heap.size := hb0.size
  refine ⟨w.heap.size + 1, [{ target := .collected w.heap.size, args := #[] }], W1, { target := .fn (.func gf) lb, args := #[.func (.yield (w.heap.size + 1)) #[] #[]] }, W1, gf,
    #[.func (.yield (w.heap.size + 1)) #[] #[]] ++ lb, W1, ?_, ?_, ?_, ?_, (fun h => by cases h), ?_⟩
  · rw [← hW1, hrec]; exact run_enterLoop_outer _ _ _ _ _
  · simp only [resolve, hg]
    simp [go_sem]
  · intro f' hf'; trivial
  · simp [invoke, go_sem, eg]
  · obtain ⟨J, hJd⟩ : ∃ J : (LoopState → Option Code → Prop) → ((List α) → (Nat → Prop) → World → Option Code → Prop) → List α → (Nat → Prop) → World → Prop,
        J = fun S X pre Mh A => ∃ M st pe, S st pe ∧ (∀ i, Mh i ↔ (M i ∨ i = w.heap.size + 1 ∨ i = w.heap.size)) ∧ (∀ i, M i → i ≠ w.heap.size + 1 ∧ i ≠ w.heap.size) ∧ X pre M A pe ∧
          A.heap[w.heap.size + 1]? = some (.loop (rec st pe)) ∧ A.heap[w.heap.size]? = some (.deferred (some [])) := ⟨_, rfl⟩
    have hJst : ∀ S X pre Mh A B, (∀ pre M A B pe, X pre M A pe → Kpt (fun i => w.heap.size ≤ i ∧ ¬ M i) A B → X pre M B pe) → J S X pre Mh A → Kpt (fun i => W1.heap.size ≤ i ∧ ¬ Mh i) A B → J S X pre Mh B := by
      intro S X pre Mh A B hX hj hk
      rw [hJd] at hj ⊢
      obtain ⟨M, st, pe, hS, hM1, hM2, hx, hl, hd⟩ := hj
      exact ⟨M, st, pe, hS, hM1, hM2, hX _ _ _ _ _ hx (hk.mono (fun i _ h => ⟨by omega, fun k => h.2 ((hM1 i).2 (.inl k))⟩)), hk.at hl (fun h => h.2 ((hM1 _).2 (.inr (.inl rfl)))), hk.at hd (fun h => h.2 ((hM1 _).2 (.inr (.inr rfl))))⟩
    refine ((callsIn_wide (n := n - 1)).2 (hseq (w.heap.size + 1) (J (fun st pe => st = .ready ∧ pe = none) (fun pre M A _ => I pre M A)) (J (fun st pe => st = .done ∧ pe.isSome = true) (fun pre M A pe => ∃ c, pe = some c ∧ Ix c pre M A)) W1 (fun i => M i ∨ i = w.heap.size + 1 ∨ i = w.heap.size) hb1 ?_ ?_ ?_ ?_ ?_)).mono ?_
    · intro i hi
      rcases hi with h | h | h
      · have := hM i h; omega
      · omega
      · omega
    · intro pre Mh A B hj hk
      exact hJst _ _ _ _ _ _ (fun pre M A B pe h k => hI _ _ _ _ h k) hj hk
    · intro pre Mh A B hj hk
      exact hJst _ _ _ _ _ _ (fun pre M A B pe h k => by obtain ⟨c, e, h⟩ := h; exact ⟨c, e, hIx _ _ _ _ _ h k⟩) hj hk
    · -- ONE ROUND
      intro pre x vs N A Mh hj hpre hrd hMh hN hWA
      rw [hJd] at hj
      obtain ⟨M2, st, pe, ⟨rfl, rfl⟩, hM1, hM2, hi, hl, hd⟩ := hj
      have hMA : ∀ i, M2 i → w0.heap.size ≤ i ∧ i < A.heap.size := fun i h => hMh i ((hM1 i).2 (.inl h))
      have hNA : ∀ i, N i → w.heap.size ≤ i ∧ i < A.heap.size ∧ ¬ M2 i := fun i h => by
        obtain ⟨h1, h2, h3⟩ := hN i h
        exact ⟨by omega, h2, fun k => h3 ((hM1 i).2 (.inl k))⟩
      have hNl : ∀ i, N i → i ≠ w.heap.size + 1 ∧ i ≠ w.heap.size := fun i h => ⟨fun e => (hN i h).2.2 ((hM1 i).2 (.inr (.inl e))), fun e => (hN i h).2.2 ((hM1 i).2 (.inr (.inr e)))⟩
      have hlA : w.heap.size + 1 < A.heap.size := (Array.getElem?_eq_some_iff.1 hl).1
      have hy := run_yield (P := P) (args := vs) hl (by rw [hrec]; exact hps _ _ _ _ hrd)
      rw [hrec] at hy
      refine ⟨fn, _, assign, body, hy, roundIn_of_wpIn hfn (wpIn_mono (hassign _ pre x vs N A M2 hi hpre hrd hMA hNA) ?_)⟩
      rintro e a₁ B hp
      cases e with
      | exit id => exact hp.elim
      | goto t => exact hp.elim
      | ret => exact hp.elim
      | panic c => exact hp.elim
      | outgrown => exact hp.elim
      | normal =>
        obtain ⟨M3, h31, h32, hi3, hax⟩ := hp
        have hl3 : B.heap[w.heap.size + 1]? = some (.loop (rec .ready none)) := h32.at hl (fun h => (hM2 _ h).1 rfl)
        have hd3 : B.heap[w.heap.size]? = some (.deferred (some [])) := h32.at hd (fun h => (hM2 _ h).2 rfl)
        have hM3 : ∀ i, M3 i → i ≠ w.heap.size + 1 ∧ i ≠ w.heap.size := fun i h => by
          rcases (h31 i h).1 with k | k
          · exact hM2 i k
          · omega
        have hNM3 : ∀ i, N i → ¬ M3 i := fun i h k => by
          rcases (h31 i k).1 with z | z
          · exact (hNA i h).2.2 z
          · have := (hNA i h).2.1; omega
        refine ⟨_, run_beginRound hl3 (by rw [hrec]), ?_⟩
        obtain ⟨B2, hB2⟩ : ∃ B2, B.putObj (w.heap.size + 1) (.loop { rec .ready none with state := .busy }) = B2 := ⟨_, rfl⟩
        rw [hB2]
        have hk2 : Kpt (fun i => i = w.heap.size + 1) B B2 := by rw [← hB2]; exact .putObj _ _ _
        have hl2 : B2.heap[w.heap.size + 1]? = some (.loop { rec .ready none with state := .busy }) := by rw [← hB2]; exact World.putObj_heap_same (Array.getElem?_eq_some_iff.1 hl3).1
        have hd2 : B2.heap[w.heap.size]? = some (.deferred (some [])) := hk2.at hd3 (by omega)
        have hsz2 : B2.heap.size = B.heap.size := by rw [← hB2]; simp [World.putObj]
        have hk2M : Kpt (fun i => w.heap.size ≤ i ∧ ¬ M3 i) B B2 := hk2.mono (fun i _ e => ⟨by omega, fun k => (hM3 i k).1 e⟩)
        have hrd2 : Rd B2 N x vs := hRd _ _ _ _ _ hrd (h32.trans hk2 (fun i hi h => by
          rcases h with h | h
          · exact ⟨(hMA i h).1, fun k => (hNA i k).2.2 h⟩
          · exact ⟨by omega, fun k => (hNl i k).1 h⟩))
        have hsAB := h32.size
        refine wpIn_mono (hbody _ pre x vs N B2 M3 a₁ (hI _ _ _ _ hi3 hk2M) hpre hrd2 (hAx _ _ _ _ _ _ hax hk2M) ?_ ?_) ?_
        · intro i h
          have h1 := (h31 i h).2
          rcases (h31 i h).1 with k | k
          · have := hMA i k; omega
          · omega
        · intro i h
          have := hNA i h
          exact ⟨this.1, by omega, hNM3 i h⟩
        have fin : ∀ (jump : Option Code) (B3 : World) (M4 : Nat → Prop), Kpt (fun i => M3 i ∨ N i) B2 B3 → (∀ i, M4 i → (M3 i ∨ N i ∨ B2.heap.size ≤ i) ∧ i < B3.heap.size) →
            (Instr.endRound (w.heap.size + 1) jump).run P B3 = .ok (.bool jump.isNone) (B3.putObj (w.heap.size + 1) (.loop (rec (if jump.isNone then .ready else .done) jump))) ∧
            (B3.putObj (w.heap.size + 1) (.loop (rec (if jump.isNone then .ready else .done) jump))).heap[w.heap.size + 1]? = some (.loop (rec (if jump.isNone then .ready else .done) jump)) ∧
            (B3.putObj (w.heap.size + 1) (.loop (rec (if jump.isNone then .ready else .done) jump))).heap[w.heap.size]? = some (.deferred (some [])) ∧
            Kpt (fun i => Mh i ∨ N i) A (B3.putObj (w.heap.size + 1) (.loop (rec (if jump.isNone then .ready else .done) jump))) ∧
            (∀ i, (M4 i ∨ i = w.heap.size + 1 ∨ i = w.heap.size) → (Mh i ∨ N i ∨ A.heap.size ≤ i) ∧ i < (B3.putObj (w.heap.size + 1) (.loop (rec (if jump.isNone then .ready else .done) jump))).heap.size) ∧
            (∀ i, M4 i → i ≠ w.heap.size + 1 ∧ i ≠ w.heap.size) ∧
            Kpt (fun i => w.heap.size ≤ i ∧ ¬ M4 i) B3 (B3.putObj (w.heap.size + 1) (.loop (rec (if jump.isNone then .ready else .done) jump))) := by
          intro jump B3 M4 hk3 h4
          have hl4 : B3.heap[w.heap.size + 1]? = some (.loop { rec .ready none with state := .busy }) := hk3.at hl2 (fun h => by rcases h with h | h; exact (hM3 _ h).1 rfl; exact (hNl _ h).1 rfl)
          have hd4 : B3.heap[w.heap.size]? = some (.deferred (some [])) := hk3.at hd2 (fun h => by rcases h with h | h; exact (hM3 _ h).2 rfl; exact (hNl _ h).2 rfl)
          have hr := run_endRound (P := P) jump hl4
          have hlt := (Array.getElem?_eq_some_iff.1 hl4).1
          have hsz3 := hk3.size
          have hM4 : ∀ i, M4 i → i ≠ w.heap.size + 1 ∧ i ≠ w.heap.size := fun i h => by
            rcases (h4 i h).1 with k | k | k
            · exact hM3 i k
            · exact hNl i k
            · omega
          have hpo : Kpt (fun i => i = w.heap.size + 1) B3 (B3.putObj (w.heap.size + 1) (.loop (rec (if jump.isNone then .ready else .done) jump))) := .putObj _ _ _
          refine ⟨by rw [hrec] at hr ⊢; exact hr, World.putObj_heap_same hlt, (World.putObj_heap_other (by omega)).trans hd4, ?_, ?_, hM4, hpo.mono (fun i _ e => ⟨by omega, fun k => (hM4 i k).1 e⟩)⟩
          · refine Kpt.trans (M1 := fun i => Mh i ∨ N i) ?_ (hpo.mono (M' := fun i => i = w.heap.size + 1) (fun i _ e => e)) (fun i hi h => by
              rcases h with h | h
              · exact h
              · exact .inl ((hM1 i).2 (.inr (.inl h))))
            refine Kpt.trans (M1 := fun i => Mh i ∨ N i) ?_ hk3 (fun i hi h => by
              rcases h with h | h | h
              · exact h
              · rcases (h31 i h).1 with k | k
                · exact .inl ((hM1 i).2 (.inl k))
                · omega
              · exact .inr h)
            exact h32.trans hk2 (fun i hi h => by
              rcases h with h | h
              · exact .inl ((hM1 i).2 (.inl h))
              · exact .inl ((hM1 i).2 (.inr (.inl h))))
          · intro i h
            have hps : (B3.putObj (w.heap.size + 1) (.loop (rec (if jump.isNone then .ready else .done) jump))).heap.size = B3.heap.size := by simp [World.putObj]
            rw [hps]
            rcases h with h | h | h
            · refine ⟨?_, (h4 i h).2⟩
              rcases (h4 i h).1 with k | k | k
              · rcases (h31 i k).1 with z | z
                · exact .inl ((hM1 i).2 (.inl z))
                · exact .inr (.inr z)
              · exact .inr (.inl k)
              · exact .inr (.inr (by omega))
            · exact ⟨.inl ((hM1 i).2 (.inr (.inl h))), by omega⟩
            · exact ⟨.inl ((hM1 i).2 (.inr (.inr h))), by omega⟩
        rintro e a3 B3 hp
        cases e with
        | normal =>
          obtain ⟨M4, h41, h42, hi4⟩ := hp
          obtain ⟨f1, f2, f3, f4, f5, f6, f7⟩ := fin none B3 M4 h42 h41
          refine ⟨_, _, f1, _, f5, f4, .inl ⟨rfl, ?_⟩⟩
          rw [hJd]
          exact ⟨M4, _, _, ⟨rfl, rfl⟩, fun _ => Iff.rfl, f6, hI _ _ _ _ hi4 f7, f2, f3⟩
        | ret =>
          obtain ⟨M4, h41, h42, hi4⟩ := hp
          obtain ⟨f1, f2, f3, f4, f5, f6, f7⟩ := fin (some .ret) B3 M4 h42 h41
          refine ⟨_, _, f1, _, f5, f4, .inr ⟨rfl, ?_⟩⟩
          rw [hJd]
          exact ⟨M4, _, _, ⟨rfl, rfl⟩, fun _ => Iff.rfl, f6, ⟨_, rfl, hIx _ _ _ _ _ hi4 f7⟩, f2, f3⟩
        | exit id =>
          obtain ⟨M4, h41, h42, hi4⟩ := hp
          obtain ⟨f1, f2, f3, f4, f5, f6, f7⟩ := fin (some (.exit id)) B3 M4 h42 h41
          refine ⟨_, _, f1, _, f5, f4, .inr ⟨rfl, ?_⟩⟩
          rw [hJd]
          exact ⟨M4, _, _, ⟨rfl, rfl⟩, fun _ => Iff.rfl, f6, ⟨_, rfl, hIx _ _ _ _ _ hi4 f7⟩, f2, f3⟩
        | goto t =>
          obtain ⟨M4, h41, h42, hi4⟩ := hp
          obtain ⟨f1, f2, f3, f4, f5, f6, f7⟩ := fin (some (.goto t)) B3 M4 h42 h41
          refine ⟨_, _, f1, _, f5, f4, .inr ⟨rfl, ?_⟩⟩
          rw [hJd]
          exact ⟨M4, _, _, ⟨rfl, rfl⟩, fun _ => Iff.rfl, f6, ⟨_, rfl, hIx _ _ _ _ _ hi4 f7⟩, f2, f3⟩
        | panic ch => exact hp.elim
        | outgrown => exact hp.elim
    · rw [hJd]
      exact ⟨M, _, _, ⟨rfl, rfl⟩, fun _ => Iff.rfl, fun i h => by have := hM i h; omega, hI1, hL1, hK1⟩
    · -- BEHIND THE ITERATOR
      rintro e W2 ⟨⟨v, rfl⟩, Mh, hm1, hk, hj⟩
      have ends : ∀ (M4 : Nat → Prop) (st : LoopState) (pe : Option Code), st ≠ .busy → (∀ i, Mh i ↔ (M4 i ∨ i = w.heap.size + 1 ∨ i = w.heap.size)) → (∀ i, M4 i → i ≠ w.heap.size + 1 ∧ i ≠ w.heap.size) → W2.heap[w.heap.size + 1]? = some (.loop (rec st pe)) → W2.heap[w.heap.size]? = some (.deferred (some [])) →
          (Instr.endLoop (w.heap.size + 1)).run P W2 = .ok pe (W2.putObj (w.heap.size + 1) (.loop (rec .exhausted pe))) ∧
          Kpt (fun i => w.heap.size ≤ i ∧ ¬ M4 i) W2 (W2.putObj (w.heap.size + 1) (.loop (rec .exhausted pe))) ∧ Kpt M w (W2.putObj (w.heap.size + 1) (.loop (rec .exhausted pe))) ∧
          (∀ i, M4 i → (M i ∨ w.heap.size ≤ i) ∧ i < (W2.putObj (w.heap.size + 1) (.loop (rec .exhausted pe))).heap.size) ∧ (W2.putObj (w.heap.size + 1) (.loop (rec .exhausted pe))).heap[w.heap.size]? = some (.deferred (some [])) := by
        intro M4 st pe hst h1 h2 hl hd
        have hr := run_endLoop (P := P) hl (by rw [hrec]; exact hst)
        have hpo : Kpt (fun i => i = w.heap.size + 1) W2 (W2.putObj (w.heap.size + 1) (.loop (rec .exhausted pe))) := .putObj _ _ _
        have hps : (W2.putObj (w.heap.size + 1) (.loop (rec .exhausted pe))).heap.size = W2.heap.size := by simp [World.putObj]
        refine ⟨by rw [hrec] at hr ⊢; exact hr, hpo.mono (fun i _ e => ⟨by omega, fun k => (h2 i k).1 e⟩), ?_, fun i h => ?_, (World.putObj_heap_other (by omega)).trans hd⟩
        · refine Kpt.trans (M1 := M) ((Kpt.of_new M hB1).trans hk (fun i hi h => ?_)) hpo (fun i hi h => ?_)
          · rcases h with h | h | h | h
            · exact h
            · exact h
            · omega
            · omega
          · rcases h with h | h
            · exact h
            · omega
        · rw [hps]
          have := hm1 i ((h1 i).2 (.inl h))
          refine ⟨?_, this.2⟩
          rcases this.1 with (k | k | k) | k
          · exact .inl k
          · exact .inr (by omega)
          · exact .inr (by omega)
          · exact .inr (by omega)
      rcases hj with ⟨xs, hen, hj⟩ | ⟨pre, hpre, hj⟩
      · rw [hJd] at hj
        obtain ⟨M4, st, pe, ⟨rfl, rfl⟩, h1, h2, hi, hl, hd⟩ := hj
        obtain ⟨e1, e2, e3, e4, e5⟩ := ends M4 _ _ (by simp) h1 h2 hl hd
        exact ⟨none, _, e1, hdone _ xs _ M4 hen (hI _ _ _ _ hi e2) e3 e4 e5 (Nat.le_refl _) (fun h => (h2 _ h).2 rfl)⟩
      · rw [hJd] at hj
        obtain ⟨M4, st, pe, ⟨rfl, hp⟩, h1, h2, ⟨c, rfl, hi⟩, hl, hd⟩ := hj
        obtain ⟨e1, e2, e3, e4, e5⟩ := ends M4 _ _ (by simp) h1 h2 hl hd
        exact ⟨some c, _, e1, hstop _ c pre _ M4 hpre (hIx _ _ _ _ _ hi e2) e3 e4 e5 (Nat.le_refl _) (fun h => (h2 _ h).2 rfl)⟩
end Go.Proofs.Ytacacigpendneaa.Seq
/- maps.Keys of a map of versions: the iterator hands out each name once, in some order. -/
namespace Go.Proofs.Ytacacigpendneaa.QV
open Go.RowKit Go.Proofs.YtacacigpendneaaW.PrintWords Go.Proofs.Ytacacigpendneaa.Seq Go.Proofs.Ytacacigpendneaa.Mp Go.Shelf
set_option linter.unusedVariables false
set_option linter.unusedSimpArgs false
attribute [local go_sem] Oper.semAt_some

def RdNm (A : World) (N : Nat → Prop) (x : Nm) (vs : Array Value) : Prop := (∀ i, ¬ N i) ∧ Nok x ∧ vs = #[.agg #[.int .u64 x.f0, .int .u32 x.f1]]
/-- All names at which f has something, each once. -/
def AllOf (f : Nm → Option Value) (xs : List Nm) : Prop := xs.Nodup ∧ (∀ a ∈ xs, Nok a) ∧ ∀ a, Nok a → ((f a).isSome = true ↔ a ∈ xs)
theorem keys_any (mb : Option Nat) (w : World) :
    Calls Try.prog 40 #[.map mb] w fun e w' => e = .returned (.func (.func 56) #[] #[.pointer (some ⟨w.heap.size, 0, none⟩)]) ∧ w' = w.alloc (.cells #[.map mb] tMap) := by
  go_enter Try.func40, Try.ntmps40
  go_wp2
  go_ret
  exact ⟨rfl, rfl⟩

set_option maxRecDepth 100000 in
set_option maxHeartbeats 2000000 in
theorem keys_seq (B b n : Nat) (f : Nm → Option Value) (w : World) (hB : B < w.heap.size) (hcell : w.cell? ⟨B, 0, none⟩ = some (.map (some b))) (hm : MapIs nmK w b n f) :
    SeqP Try.prog 56 #[.pointer (some ⟨B, 0, none⟩)] RdNm (fun pre => pre.length ≤ n) (fun xs => xs.length ≤ n ∧ AllOf f xs) w := by
  intro l J Jx W M hW hM hJ hJx hY h0
  have hcW : W.cell? ⟨B, 0, none⟩ = some (.map (some b)) := (hW.cell (p := ⟨B, 0, none⟩) hB).trans hcell
  have hmW := hm.below hW
  refine (callsIn_wide (n := 0)).1 (callsIn_of_wp Try.func56 rfl trivial ?_ rfl)
  simp only [Try.ntmps56, List.size_toArray, List.length_cons, List.length_nil, Nat.reduceAdd, Nat.reduceSub, Array.replicate_succ, Array.replicate_zero, List.push_toArray, List.append_toArray, List.nil_append, List.cons_append]
  gi_wp2_with (first
    | (gi_at_range; refine wpListIn_range_map _ rfl _ tMap rfl tVer Try.underlying74 rfl hmW ?_; intro w0 cnt0 hrg0 hc0 hg0 hs0)
    | gi_in)
  have hb0 : Below W.heap.size W w0 := (Below.refl _ _).grown hg0 (Nat.le_refl _) (fun k e => by cases e)
  gi_loopw [3] (fun _ wr => ∃ (todo : Nm → Bool) (cnt : Nat) (xs : List Nm) (Mk : Nat → Prop), RangeIs nmK wr b W.heap.size n f todo cnt ∧ xs.length + cnt ≤ n ∧ xs.Nodup ∧ (∀ a ∈ xs, Nok a) ∧ (∀ a, Nok a → ((f a).isSome = true ↔ (todo a = true ∨ a ∈ xs))) ∧ (∀ a ∈ xs, todo a = false) ∧
      J xs Mk wr ∧ (∀ i, Mk i → (M i ∨ W.heap.size ≤ i) ∧ i < wr.heap.size) ∧ ¬ Mk W.heap.size ∧ Kpt M W wr)
    (fun _ wr => wr.rangeLeft b W.heap.size)
  case atStart =>
    exact ⟨_, cnt0, [], M, hrg0, by simpa using hc0, List.nodup_nil, fun a h => (by cases h), fun a ha => by simp, fun a h => (by cases h), hJ _ _ _ _ h0 (Kpt.of_new _ hb0), fun i hi => ⟨.inl hi, Nat.lt_of_lt_of_le (hM i hi).2 hb0.size⟩, fun h => absurd (hM _ h).2 (Nat.lt_irrefl _), Kpt.of_new _ hb0⟩
  case round =>
    obtain ⟨todo, cnt, xs, Mk, hrg, hcs, hnd, hxok, hin, hout, hJk, hMk, hMr, hkp⟩ := hrel
    gi_wp2_with (first
      | (gi_at_next; refine wpListIn_next_map _ rfl _ rfl rfl hrg ?_ ?_)
      | gi_in)
    · -- nothing is left
      intro hc0 hl0
      gi_wp2
      go_end0
      refine ⟨⟨_, rfl⟩, Mk, hMk, hkp, .inl ⟨xs, ⟨by omega, hnd, hxok, fun a ha => ?_⟩, hJk⟩⟩
      rw [hin a ha, hl0 a ha]; simp
    · intro x v w2 cnt2 hxk htd hfv hrg2 hlt hg2 hs2 hen
      rw [nmK_val] at hen
      have hk2 : Kpt (fun i => i = W.heap.size) wr w2 := (Kpt.grown hg2).mono (fun i _ h => by simpa using h)
      have hJ2 : J xs Mk w2 := hJ _ _ _ _ hJk (hk2.mono (fun i _ e => by rw [e]; exact ⟨Nat.le_refl _, hMr⟩))
      have hw0 : w.heap.size ≤ W.heap.size := hW.size
      have hWr : W.heap.size ≤ wr.heap.size := hkp.size
      obtain ⟨w3, hw3⟩ : ∃ w3, w2.alloc (.cells #[.int .u64 x.f0, .int .u32 x.f1] tNm) = w3 := ⟨_, rfl⟩
      have hk3 : Kpt (fun _ => False) w2 w3 := by rw [← hw3]; exact Kpt.alloc _ _ _
      have hb3 := blk_new w2 (.cells #[.int .u64 x.f0, .int .u32 x.f1] tNm)
      rw [hw3, hs2] at hb3
      have hq0 : w3.cell? ⟨wr.heap.size, 0, none⟩ = some (.int .u64 x.f0) := blk_cell hb3 0
      have hq1 : w3.cell? ⟨wr.heap.size, 1, none⟩ = some (.int .u32 x.f1) := blk_cell hb3 1
      have hs3 : w3.heap.size = w2.heap.size + 1 := by rw [← hw3]; simp
      have hYk := hY xs x #[.agg #[.int .u64 x.f0, .int .u32 x.f1]] (fun _ => False) w3 Mk (hJ _ _ _ _ hJ2 (hk3.mono (fun _ _ h => h.elim))) (by simp; omega) ⟨fun _ h => h, hxk, rfl⟩
        (fun i hi => ⟨by rcases (hMk i hi).1 with h | h; exact (hM i h).1; exact Nat.le_trans hw0 h, by have := (hMk i hi).2; omega⟩) (fun i h => h.elim) (by omega)
      obtain ⟨fn, tmps, assign, body, hy, hR⟩ := hYk
      gi_wp2
      refine ⟨rfl, hR.mono ?_⟩
      rintro e W3 ⟨M3, hM3, hk4, h4⟩
      have hbW : b < W.heap.size := hmW.lt
      have hbw := hm.lt
      have hMb : ¬ Mk b := fun h => by
        rcases (hMk b h).1 with z | z
        · have := (hM b z).1; omega
        · omega
      have hK13 : Kpt (fun i => Mk i ∨ i = W.heap.size) wr W3 := (hk2.trans hk3 (M := fun i => i = W.heap.size) (fun _ _ h => h.elim id False.elim)).trans hk4 (fun i hi h => by
        rcases h with h | h | h
        · exact .inr h
        · exact .inl h
        · exact h.elim)
      have hK03 : Kpt M W W3 := hkp.trans hK13 (fun i hi h => by
        rcases h with h | h | h
        · exact h
        · rcases (hMk i h).1 with z | z
          · exact z
          · omega
        · omega)
      have hMM : ∀ i, M3 i → (M i ∨ W.heap.size ≤ i) ∧ i < W3.heap.size := fun i hi => by
        refine ⟨?_, (hM3 i hi).2⟩
        rcases (hM3 i hi).1 with h | h | h
        · exact (hMk i h).1
        · exact h.elim
        · exact .inr (by omega)
      have hMr3 : ¬ M3 W.heap.size := fun h => by
        have hrl := hrg.lt
        rcases (hM3 _ h).1 with z | z | z
        · exact hMr z
        · exact z
        · omega
      rcases h4 with ⟨rfl, hJ3⟩ | ⟨rfl, hJ3⟩
      · have hrg3 : RangeIs nmK W3 b W.heap.size n f (fun z => todo z && !decide (z = x)) cnt2 := by
          have hrl2 := hrg2.lt
          refine hrg2.at ?_ ?_
          · exact (hk4.block b (by omega) (fun h => h.elim hMb id)).trans (hk3.block b (by have := hrg2.map.lt; omega) id)
          · exact (hk4.block _ (by omega) (fun h => h.elim hMr id)).trans (hk3.block _ hrl2 id)
        have hxn : x ∉ xs := fun h => by rw [hout x h] at htd; cases htd
        gi_wp2
        go_roundw
        case rel =>
          refine ⟨_, cnt2, xs ++ [x], M3, hrg3, by simp; omega, ?_, ?_, ?_, ?_, hJ3, hMM, hMr3, hK03⟩
          · rw [List.nodup_append]
            exact ⟨hnd, by simp, fun a ha c hc => by simp at hc; subst hc; exact fun e => hxn (e ▸ ha)⟩
          · intro a ha
            rcases List.mem_append.1 ha with h | h
            · exact hxok a h
            · simp at h; subst h; exact hxk
          · intro a ha
            rw [hin a ha]
            by_cases e : a = x
            · subst e; simp [htd]
            · simp [e]
          · intro a ha
            rcases List.mem_append.1 ha with h | h
            · simp [hout a h]
            · simp at h; subst h; simp
        case measure => rw [hrg3.left_eq, hrg.left_eq]; exact hlt
      · gi_wp2
        refine bodyPost_ret (results_none rfl _ _ _) rfl ?_
        exact ⟨⟨_, rfl⟩, M3, hMM, hK03, .inr ⟨_, by simp; omega, hJ3⟩⟩
end Go.Proofs.Ytacacigpendneaa.QV
/- slices.AppendSeq(nil, seq), slices.Collect(seq) of names. -/
namespace Go.Proofs.Ytacacigpendneaa.QV
open Go.RowKit Go.Proofs.YtacacigpendneaaW.PrintWords Go.Proofs.Ytacacigpendneaa.Seq Go.Proofs.Ytacacigpendneaa.Mp Go.Shelf
set_option linter.unusedVariables false
set_option linter.unusedSimpArgs false
attribute [local go_sem] Oper.semAt_some
abbrev tNms : Nat := 79
def nmC (x : Nm) : List Value := [.int .u64 x.f0, .int .u32 x.f1]
theorem infoNm' : ∃ i, Try.prog.info? tNm = some i ∧ i.zero = some (.agg #[.int .u64 0, .int .u32 0]) ∧ i.size = 2 ∧ i.bytes = 16 := by
  have h : (Try.prog.info? tNm).map (fun i => (i.zero, i.size, i.bytes)) = some (some (.agg #[.int .u64 0, .int .u32 0]), 2, 16) := by kernel_rfl
  obtain ⟨i, hi, h2⟩ := Option.map_eq_some_iff.1 h
  simp at h2
  exact ⟨i, hi, h2.1, h2.2.1, h2.2.2⟩
/-- Between two rounds: what has been gathered lies in a box. -/
def ApI (B b0 : Nat) (pre : List Nm) (M : Nat → Prop) (A : World) : Prop :=
  M B ∧ ∃ v, A.heap[B]? = some (.cells #[v] tNms (0, 0)) ∧ A.ownsRow b0 tNm 2 v pre.length (pre.flatMap nmC) ∧ ∀ k, v.ownBlock = some k → M k ∧ k ≠ B
theorem ApI.kept {B b0 : Nat} {pre : List Nm} {M : Nat → Prop} {A A' : World} {q : Nat → Prop} (h : ApI B b0 pre M A) (hk : Kpt (fun i => q i ∧ ¬ M i) A A') : ApI B b0 pre M A' := by
  obtain ⟨h1, v, h2, h3, h4⟩ := h
  exact ⟨h1, v, hk.at h2 (fun h => h.2 h1), own_move h3 (fun k hk' => hk.block k (own_lt h3 k hk') (fun h => h.2 (h4 k hk').1)), h4⟩

set_option maxRecDepth 100000 in
set_option maxHeartbeats 2000000 in
theorem appendSeq_any (g : Nat) (lb : Array Value) (n : Nat) (En : List Nm → Prop) (w0 w : World) (eg : ∀ args w, (callFunc g args).run Try.prog w = .ok (.enter g args) w)
    (hseq : SeqP Try.prog g lb RdNm (fun pre => pre.length ≤ n) En w0) (hb0 : Below w0.heap.size w0 w) (hn : n * 16 ≤ 140737488355328) :
    Calls Try.prog 61 #[.slice none 0 0, .func (.func g) #[] lb] w fun e w' => ∃ v xs, e = .returned v ∧ En xs ∧ w'.ownsRow w.heap.size tNm 2 v xs.length (xs.flatMap nmC) ∧ Below w.heap.size w w' := by
  obtain ⟨i0, hi, hz0, hz1, hz2⟩ := infoNm'
  refine (callsIn_wide (n := 0)).1 (callsIn_of_wp_marks Try.func61 rfl trivial ?_ rfl)
  simp only [Try.ntmps61, List.size_toArray, List.length_cons, List.length_nil, Nat.reduceAdd, Nat.reduceSub, Array.replicate_succ, Array.replicate_zero, List.push_toArray, List.append_toArray, List.nil_append, List.cons_append]
  gi_wp2
  have hz : w0.heap.size ≤ w.heap.size := hb0.size
  refine wpIn_rangeP (gf := g) (lb := lb) rfl eg hseq (hb0.trans (((Below.refl _ w).alloc (Nat.le_refl _) _).mono hz)) (fun A N x vs h => by obtain ⟨_, _, rfl⟩ := h; rfl) (fun A B N x vs h hk => h)
    (ApI w.heap.size w.heap.size) (fun _ _ _ _ => False) (fun pre M A B h hk => h.kept hk) (fun _ _ _ _ _ h _ => h)
    (fun i => i = w.heap.size) ?hM ?h0 (fun x vs a₁ M A => ∃ bx, M bx ∧ A.heap[bx]? = some (.cells #[.int .u64 x.f0, .int .u32 x.f1] tNm (0, 0)) ∧ bx ≠ w.heap.size ∧ a₁ = { tmps := #[.slice none 0 0, .func (.func g) #[] lb, .pointer (some ⟨w.heap.size, 0, none⟩), undef, .slice none 0 0, .pointer (some ⟨bx, 0, none⟩), .func (.func g) #[] lb, .agg #[.int .u64 x.f0, .int .u32 x.f1], undef, undef, undef, undef, undef], defers := [] })
    (fun x vs a₁ M A B h hk => by obtain ⟨bx, h1, h2, h3⟩ := h; exact ⟨bx, h1, hk.at h2 (fun h => h.2 h1), h3⟩) ?assign ?body ?done ?stop
  case hM => intro i hi; subst hi; simp; omega
  case h0 => exact ⟨rfl, _, World.alloc_heap_new w _, ⟨by simp, .inl ⟨rfl, rfl⟩⟩, fun k hk => by simp [Value.ownBlock] at hk⟩
  case assign =>
    intro l pre x vs N A M hI hpre hrd hM hN
    obtain ⟨_, hxk, rfl⟩ := hrd
    gi_wp2
    have hBA := blk_lt hI.2.choose_spec.1
    refine ⟨fun i => M i ∨ i = A.heap.size, fun i hi => ⟨by rcases hi with h | h; exact .inl h; exact .inr (by omega), by rcases hi with h | h; exact Nat.lt_of_lt_of_le (hM i h).2 (by simp); simp; omega⟩, Kpt.alloc _ _ _, ?_, A.heap.size, .inr rfl, World.alloc_heap_new A _, by omega, rfl⟩
    obtain ⟨h1, v, h2, h3, h4⟩ := hI
    exact ⟨.inl h1, v, blk_alloc h2 _, pw_own_below h3 (below_alloc (Below.refl _ _) _), fun k hk => ⟨.inl (h4 k hk).1, (h4 k hk).2⟩⟩
  case stop =>
    intro D c pre W M' hpre h
    exact h.elim
  case done =>
    intro D xs W M' hen hI hk hM' hD hDw hDM
    obtain ⟨hMB, v, hbx, hS, hvM⟩ := hI
    have hc : W.cell? ⟨w.heap.size, 0, none⟩ = some v := blk_cell hbx 0
    have hB : Below w.heap.size w W := ((Below.refl _ w).alloc (Nat.le_refl _) _).trans (hk.below (by simp) (fun i _ e => by omega))
    gi_wp2
    refine ⟨by simp, .inl ⟨_, _, rfl, run_takeDeferred hD, ?_⟩⟩
    have hp : Kpt (fun i => i = D) W (W.putObj D (.deferred none)) := .putObj _ _ _
    exact ⟨_, results_tmp rfl _ _ _, v, xs, rfl, hen, own_move hS (fun k hk' => hp.block k (own_lt hS k hk') (fun e => hDM (by rw [← e]; exact (hvM k hk').1))), hB.trans (hp.below hB.size (fun i _ e => by rw [e]; simp at hDw; omega))⟩
  case body =>
    intro l pre x vs N A M a₁ hI hpre hrd hax hM hN
    obtain ⟨bx, hMx, hbx2, hxB, rfl⟩ := hax
    obtain ⟨hMB, v, hbx, hS, hvM⟩ := hI
    have hlen : pre.length + 1 ≤ n := by simpa using hpre
    have c0 : A.cell? ⟨w.heap.size, 0, none⟩ = some v := blk_cell hbx 0
    have f0 : A.frozen? ⟨w.heap.size, 0, none⟩ = false := blk_frozen hbx 0
    have x0 : A.cell? ⟨bx, 0, none⟩ = some (.int .u64 x.f0) := blk_cell hbx2 0
    have x1 : A.cell? ⟨bx, 1, none⟩ = some (.int .u32 x.f1) := blk_cell hbx2 1
    have hzA : w.heap.size < A.heap.size := blk_lt hbx
    gi_wp2_with (first
      | (gi_at_builtin; refine wpListIn_append_own_at _ rfl _ _ tNms rfl w.heap.size tNm i0 _ 2 16 Try.underlying79 hi hz0 hz1 hz2 rfl (by decide) v pre.length (pre.flatMap nmC) rfl (pw_own_below hS (below_alloc (Below.refl _ _) _)) ⟨A.heap.size, 0, none⟩ 1 1 (nmC x) rfl rfl (fun j u hj => ?_) (by simp [nmC, Value.oneCell']) (by unfold maxLen; omega) (by omega) (by simp; omega) ?_)
      | gi_in)
    · have h0 : ∀ j, (A.alloc (.cells #[.int .u64 x.f0, .int .u32 x.f1] tNm)).cell? ⟨A.heap.size, j, none⟩ = (#[.int .u64 x.f0, .int .u32 x.f1] : Array Value)[j]? := fun j => blk_cell (blk_new A _) j
      rw [add_plain, h0]
      simpa [nmC] using hj
    · intro v' w1 hown' hg' hnil hat
      obtain ⟨A', c', rfl⟩ := own_slice hown'
      have hbx1 : w1.heap[w.heap.size]? = some (.cells #[v] tNms (0, 0)) := blk_grown (blk_alloc hbx _) hg' (fun e => (hvM _ e.symm).2 rfl)
      have cc : w1.cell? ⟨w.heap.size, 0, none⟩ = some v := blk_cell hbx1 0
      have ff : w1.frozen? ⟨w.heap.size, 0, none⟩ = false := blk_frozen hbx1 0
      gi_wp2
      obtain ⟨w2, hw2⟩ : ∃ w2, w1.setCell ⟨w.heap.size, 0, none⟩ (.slice A' (pre.length + 1) c') = w2 := ⟨_, rfl⟩
      rw [hw2]
      have hk2 : Kpt (fun i => i = w.heap.size) w1 w2 := by rw [← hw2]; exact Kpt.setCell w1 ⟨w.heap.size, 0, none⟩ _
      have hbx2 : w2.heap[w.heap.size]? = some (.cells #[.slice A' (pre.length + 1) c'] tNms (0, 0)) := by rw [← hw2]; exact blk_set hbx1 0 _
      have hs1 : A.heap.size + 1 ≤ w1.heap.size := by have := hg'.size; simpa using this
      have hvB : ∀ k, (Value.slice A' (pre.length + 1) c').ownBlock = some k → ((M k ∧ k ≠ w.heap.size) ∨ A.heap.size ≤ k) := fun k hk => by
        rcases hat with h | h
        · exact .inl (hvM k (by rw [← h]; exact hk))
        · rw [h] at hk; exact .inr (by simp at hk; omega)
      refine ⟨fun i => (M i ∨ A.heap.size ≤ i) ∧ i < w2.heap.size, fun i hi => ⟨by rcases hi.1 with h | h; exact .inl h; exact .inr (.inr h), hi.2⟩, ?_, ⟨.inl hMB, by have := hk2.size; omega⟩, _, hbx2, ?_, fun k hk => ⟨⟨?_, ?_⟩, ?_⟩⟩
      · refine ((Kpt.alloc M A _).trans (Kpt.grown hg') (M := M) (fun i hi h => ?_)).trans hk2 (fun i hi h => ?_)
        · rcases h with h | h
          · exact h
          · exact (hvM i h.symm).1
        · rcases h with h | h
          · exact .inl h
          · rw [h]; exact .inl hMB
      · have h1 := own_move hown' (w1 := w2) (fun k hk => hk2.block k (own_lt hown' k hk) (fun e => by rcases hvB k hk with h | h; exact h.2 e; omega))
        simpa using h1
      · exact (hvB k hk).imp (fun h => h.1) id
      · exact Nat.lt_of_lt_of_le (own_lt hown' k hk) hk2.size
      · intro e; rcases hvB k hk with h | h; exact h.2 e; omega
/-- slices.Collect. -/
theorem collect_any (g : Nat) (lb : Array Value) (n : Nat) (En : List Nm → Prop) (w0 w : World) (eg : ∀ args w, (callFunc g args).run Try.prog w = .ok (.enter g args) w)
    (hseq : SeqP Try.prog g lb RdNm (fun pre => pre.length ≤ n) En w0) (hb0 : Below w0.heap.size w0 w) (hn : n * 16 ≤ 140737488355328) :
    Calls Try.prog 54 #[.func (.func g) #[] lb] w fun e w' => ∃ v xs, e = .returned v ∧ En xs ∧ w'.ownsRow w.heap.size tNm 2 v xs.length (xs.flatMap nmC) ∧ Below w.heap.size w w' := by
  go_enter Try.func54, Try.ntmps54
  go_wp2_with (go_at_call 61; refine (appendSeq_any g lb n En w0 _ eg hseq hb0 hn).mono ?_; rintro e w1 ⟨v, xs, rfl, hen, ho, hB⟩)
  go_ret
  exact ⟨v, xs, rfl, hen, ho, hB⟩
end Go.Proofs.Ytacacigpendneaa.QV
/- The contracts of Go's library that this seat's texts use, at this program: cut out of what the kit's tools lay. -/
namespace Go.Proofs
open Go.Shelf
def Try.lays125_ren : Go.Shelf.Ren := ⟨fun | 125 => 63 | 128 => 72 | 129 => 73 | n => n, fun | 46 => 106 | 3 => 3 | 51 => 23 | 53 => 22 | 4 => 4 | 5 => 5 | 9 => 9 | n => n, fun | n => n⟩
theorem Try.lays125 : Go.Proofs.Lays.n125 Try.prog Try.lays125_ren := {
  mixed := by kernel_rfl
  f125 := Try.func63.trans (congrArg some (by kernel_rfl))
  f128 := Try.func72.trans (congrArg some (by kernel_rfl))
  f129 := Try.func73.trans (congrArg some (by kernel_rfl))
  t3 := Try.underlying3
  a3 := Try.isAgg3
  z3 := Try.sizeOf3
  v3 := Try.zeroValue3
  t4 := Try.underlying4
  a4 := Try.isAgg4
  z4 := Try.sizeOf4
  v4 := Try.zeroValue4
  t5 := Try.underlying5
  a5 := Try.isAgg5
  z5 := Try.sizeOf5
  v5 := Try.zeroValue5
  t9 := Try.underlying9
  a9 := Try.isAgg9
  z9 := Try.sizeOf9
  v9 := Try.zeroValue9
  t46 := Try.underlying106
  a46 := Try.isAgg106
  z46 := Try.sizeOf106
  v46 := Try.zeroValue106
  t51 := Try.underlying23
  a51 := Try.isAgg23
  z51 := Try.sizeOf23
  v51 := Try.zeroValue23
  t53 := Try.underlying22
  a53 := Try.isAgg22
  z53 := Try.sizeOf22
  v53 := Try.zeroValue22 }
/-- bits.Len: "Len returns the minimum number of bits required to represent x; the result is 0 for x == 0.": IT RETURNS 'Lib.bitLen x'; the world is as it was. (A uint has 64 bits in the model.) ITS CALLEE bits.Len64 IS MET BY ITS OWN CONTRACT OFF THE SHELF (lay that first). (LAID: no walk: one application.) -/
theorem Try.bits_Len (x : Int) (w : World) (h0 : 0 ≤ x) (h1 : x ≤ 18446744073709551615) :
    Calls Try.prog 63 #[.int .u64 x] w fun e w' => e = .returned (.int .i64 (Lib.bitLen x.toNat)) ∧ w' = w := Any.bits_Len Try.lays125 x w h0 h1
def Try.laysSlF06_f55_ren : Go.Shelf.Ren := ⟨fun | 6 => 55 | 15 => 63 | 14 => 62 | 28 => 72 | 29 => 73 | 20 => 64 | 21 => 65 | 22 => 66 | 23 => 67 | 24 => 68 | 25 => 69 | 26 => 70 | 27 => 71 | 46 => 74 | 47 => 75 | 48 => 76 | 49 => 77 | 50 => 78 | 57 => 79 | n => n, fun | 22 => 79 | 24 => 25 | 25 => 72 | 3 => 3 | 39 => 106 | 0 => 0 | 53 => 23 | 55 => 22 | 4 => 4 | 46 => 109 | 45 => 108 | 50 => 113 | 5 => 5 | 9 => 9 | 66 => 116 | 70 => 120 | 76 => 122 | 77 => 123 | n => n, fun | n => n⟩
theorem Try.laysSlF06_f55 : Go.Proofs.SlLaysF0.n6 Try.prog Try.laysSlF06_f55_ren := {
  mixed := by kernel_rfl
  f6 := ⟨Try.f55.name, by decide, Try.func55.trans (congrArg some (by kernel_rfl))⟩
  f14 := ⟨Try.f62.name, by decide, Try.func62.trans (congrArg some (by kernel_rfl))⟩
  f15 := Try.func63.trans (congrArg some (by kernel_rfl))
  f20 := ⟨Try.f64.name, by decide, Try.func64.trans (congrArg some (by kernel_rfl))⟩
  f21 := ⟨Try.f65.name, by decide, Try.func65.trans (congrArg some (by kernel_rfl))⟩
  f22 := ⟨Try.f66.name, by decide, Try.func66.trans (congrArg some (by kernel_rfl))⟩
  f23 := ⟨Try.f67.name, by decide, Try.func67.trans (congrArg some (by kernel_rfl))⟩
  f24 := ⟨Try.f68.name, by decide, Try.func68.trans (congrArg some (by kernel_rfl))⟩
  f25 := ⟨Try.f69.name, by decide, Try.func69.trans (congrArg some (by kernel_rfl))⟩
  f26 := ⟨Try.f70.name, by decide, Try.func70.trans (congrArg some (by kernel_rfl))⟩
  f27 := ⟨Try.f71.name, by decide, Try.func71.trans (congrArg some (by kernel_rfl))⟩
  f28 := Try.func72.trans (congrArg some (by kernel_rfl))
  f29 := Try.func73.trans (congrArg some (by kernel_rfl))
  f46 := ⟨Try.f74.name, by decide, Try.func74.trans (congrArg some (by kernel_rfl))⟩
  f47 := Try.func75.trans (congrArg some (by kernel_rfl))
  f48 := Try.func76.trans (congrArg some (by kernel_rfl))
  f49 := ⟨Try.f77.name, by decide, Try.func77.trans (congrArg some (by kernel_rfl))⟩
  f50 := ⟨Try.f78.name, by decide, Try.func78.trans (congrArg some (by kernel_rfl))⟩
  f57 := ⟨Try.f79.name, by decide, Try.func79.trans (congrArg some (by kernel_rfl))⟩
  t0 := Try.underlying0
  a0 := Try.isAgg0
  z0 := Try.sizeOf0
  v0 := Try.zeroValue0
  t3 := Try.underlying3
  a3 := Try.isAgg3
  z3 := Try.sizeOf3
  v3 := Try.zeroValue3
  t4 := Try.underlying4
  a4 := Try.isAgg4
  z4 := Try.sizeOf4
  v4 := Try.zeroValue4
  t5 := Try.underlying5
  a5 := Try.isAgg5
  z5 := Try.sizeOf5
  v5 := Try.zeroValue5
  t9 := Try.underlying9
  a9 := Try.isAgg9
  z9 := Try.sizeOf9
  v9 := Try.zeroValue9
  t22 := Try.underlying79
  a22 := Try.isAgg79
  z22 := Try.sizeOf79
  v22 := Try.zeroValue79
  t25 := Try.underlying72
  a25 := Try.isAgg72
  z25 := Try.sizeOf72
  v25 := Try.zeroValue72
  t39 := Try.underlying106
  a39 := Try.isAgg106
  z39 := Try.sizeOf106
  v39 := Try.zeroValue106
  t45 := Try.underlying108
  a45 := Try.isAgg108
  z45 := Try.sizeOf108
  v45 := Try.zeroValue108
  t46 := Try.underlying109
  a46 := Try.isAgg109
  z46 := Try.sizeOf109
  v46 := Try.zeroValue109
  t50 := Try.underlying113
  a50 := Try.isAgg113
  z50 := Try.sizeOf113
  v50 := Try.zeroValue113
  t53 := Try.underlying23
  a53 := Try.isAgg23
  z53 := Try.sizeOf23
  v53 := Try.zeroValue23
  t55 := Try.underlying22
  a55 := Try.isAgg22
  z55 := Try.sizeOf22
  v55 := Try.zeroValue22
  t66 := Try.underlying116
  a66 := Try.isAgg116
  z66 := Try.sizeOf116
  v66 := Try.zeroValue116
  t70 := Try.underlying120
  a70 := Try.isAgg120
  z70 := Try.sizeOf120
  v70 := Try.zeroValue120
  t76 := Try.underlying122
  a76 := Try.isAgg122
  z76 := Try.sizeOf122
  v76 := Try.zeroValue122
  t77 := Try.underlying123
  a77 := Try.isAgg123
  z77 := Try.sizeOf123
  v77 := Try.zeroValue123 }
open Go.RowKit Go.Lib Go.Sort in
/-- **slices.SortFunc, IN THE DOCUMENTATION's OWN TERMS: A PERMUTATION OF WHAT THE ROW HELD, SORTED BY 'cmp(a, b) < 0'.** Which of two equals comes first is left open ("The sort is not guaranteed to be stable"). (LAID AT THE INSTANCE 'slices.SortFunc[[]hayloft/api.RowId,hayloft/api.RowId]': no walk: one application.) -/
theorem Try.slices_SortFunc {α : Type} [Inhabited α] (k : Nat) (aE : ∀ w, (isAgg (Try.laysSlF06_f55_ren.t 24)).run Try.prog w = .ok true w) (zE : ∀ w, (Go.sizeOf (Try.laysSlF06_f55_ren.t 24)).run Try.prog w = .ok k w) (enc : α → List Value) (hk : ∀ x, (enc x).length = k) (h1 : ∀ x, ∀ v ∈ enc x, v.oneCell' = true) (cf : α → α → Int) (hO : SWO (ltOf cf)) (g : Nat) (cb : Array Value) (blk off cap : Nat) (d : Array α) (w : World) (eg : ∀ args w, (callFunc g args).run Try.prog w = .ok (.enter g args) w) (hcmp : CmpLays Try.prog g cb enc k cf blk off d.size w) (hH : HoldsK enc k w blk off d) (hblk : blk < w.heap.size) (hsz : d.size < 4611686018427387904) :
    Calls Try.prog 55 #[.slice (some ⟨blk, off, none⟩) d.size cap, .func (.func g) #[] cb] w fun e w' =>
      e = .returned (.tuple #[]) ∧ ∃ d' n os, PermIn 0 d.size d d' ∧ SortedIn (ltOf cf) 0 d.size d' ∧ w' = sortWorldK enc k w blk off n d' os := AnyQ.slices_SortFunc Try.laysSlF06_f55 k aE zE enc hk h1 cf hO g cb blk off cap d w eg hcmp hH hblk hsz
end Go.Proofs
/- slices.SortFunc of a row of names of one's own, by recover.order; slices.SortedFunc. -/
namespace Go.Proofs.Ytacacigpendneaa.QV
open Go.RowKit Go.Proofs.YtacacigpendneaaW.PrintWords Go.Proofs.Ytacacigpendneaa.Seq Go.Proofs.Ytacacigpendneaa.Mp Go.Shelf Go.Sort
set_option linter.unusedVariables false
set_option linter.unusedSimpArgs false
theorem flat_get {α : Type} [Inhabited α] (enc : α → List Value) (k : Nat) (hk : ∀ x, (enc x).length = k) (h0 : 0 < k) : ∀ (l : List α) (t : Nat), t < l.length * k → (l.flatMap enc)[t]? = some ((enc l[t / k]!)[t % k]!)
  | [], t, h => by simp at h
  | x :: l, t, h => by
    rw [List.flatMap_cons]
    by_cases ht : t < k
    · rw [List.getElem?_append_left (by rw [hk]; exact ht), Nat.div_eq_of_lt ht, Nat.mod_eq_of_lt ht]
      simp [hk, ht]
    · rw [List.getElem?_append_right (by rw [hk]; omega), hk, flat_get enc k hk h0 l (t - k) (by simp [Nat.add_mul] at h; omega)]
      have e1 : t / k = (t - k) / k + 1 := by
        rw [Nat.div_eq_sub_div h0 (by omega)]
      have e2 : t % k = (t - k) % k := Nat.mod_eq_sub_mod (by omega)
      rw [e1, e2]; simp
theorem flatK_list {α : Type} [Inhabited α] (enc : α → List Value) (k : Nat) (hk : ∀ x, (enc x).length = k) (h0 : 0 < k) (l : List α) : (flatK enc k l.toArray).toList = l.flatMap enc := by
  apply List.ext_getElem?
  intro t
  by_cases h : t < l.length * k
  · rw [flat_get enc k hk h0 l t h, Array.getElem?_toList]
    simp [flatK, h]
  · have hl : (l.flatMap enc).length = l.length * k := by
      clear h
      induction l with
      | nil => simp
      | cons x l ih => rw [List.flatMap_cons, List.length_append, hk, ih]; simp [Nat.add_mul]; omega
    rw [List.getElem?_eq_none (by simp [flatK]; omega), List.getElem?_eq_none (by rw [hl]; omega)]
theorem holdsK_block {α : Type} [Inhabited α] {enc : α → List Value} {k : Nat} (hk : ∀ x, (enc x).length = k) (h0 : 0 < k) {w : World} {g : Nat} {cur : Array Value} {e : TypeId} {l : List α} (hb : w.heap[g]? = some (.cells cur e (0, 0))) (ht : cur.toList.take (l.length * k) = l.flatMap enc) : HoldsK enc k w g 0 l.toArray := by
  intro j hj
  have hj' : j < l.length * k := by simpa using hj
  refine ⟨?_, by simp [World.frozen?, hb]⟩
  have h1 : (cur.toList.take (l.length * k))[j]? = (flatK enc k l.toArray).toList[j]? := by rw [ht, flatK_list enc k hk h0]
  rw [List.getElem?_take_of_lt hj'] at h1
  simp only [World.cell?, hb, Nat.zero_add]
  simp only [Option.isSome_none, Bool.false_eq_true, if_false]
  rw [← Array.getElem?_toList, h1]
  simp [flatK, hj']
theorem heap_sortedK {w : World} {g n : Nat} {os : Array Obj} {cur : Array Value} {e : TypeId} {fr : Nat × Nat} (F : Array Value) (hb : w.heap[g]? = some (.cells cur e fr)) :
    (grow (putRow id (Sort.ahead w n) g 0 F) os).heap[g]? = some (.cells (putCells id 0 F cur) e fr) := by
  have hg : g < w.heap.size := (Array.getElem?_eq_some_iff.1 hb).1
  rw [heap_grow_old _ _ (by simpa using hg)]
  simp [putRow, mapBlock, Sort.ahead, Array.getElem?_modify, hb, onCells]
theorem grownBy_sortedK {w : World} {g n : Nat} {os : Array Obj} (F : Array Value) : w.grownBy (grow (putRow id (Sort.ahead w n) g 0 F) os) (some g) := by
  refine ⟨rfl, rfl, rfl, by simp, fun k hk hne => ?_⟩
  rw [heap_grow_old _ _ (by simpa using hk)]
  have : g ≠ k := fun e => hne (by rw [e])
  simp [putRow, mapBlock, Sort.ahead, Array.getElem?_modify, this]
theorem take_putCellsK (cur F : Array Value) (h : F.size ≤ cur.size) : (putCells id 0 F cur).toList.take F.size = F.toList := by
  apply List.ext_getElem?
  intro j
  by_cases hj : j < F.size
  · rw [List.getElem?_take_of_lt hj, Array.getElem?_toList]
    simp [putCells, hj, show j < cur.size by omega]
  · rw [List.getElem?_take_eq_none (by omega), List.getElem?_eq_none (by simp; omega)]
/-- Behind the sort the same slice owns the sorted list. -/
theorem ownsRow_sortedK {α : Type} [Inhabited α] {enc : α → List Value} {k : Nat} (hk : ∀ x, (enc x).length = k) (h0 : 0 < k) {w : World} {base g cap n : Nat} {e : TypeId} {os : Array Obj} {cur : Array Value} {l l' : List α} (hl : l'.length = l.length) (hbase : base ≤ g) (hb : w.heap[g]? = some (.cells cur e (0, 0)))
    (h1 : l.length ≤ cap) (h2 : cap ≤ maxLen) (h3 : cur.size = cap * k) :
    (grow (putRow id (Sort.ahead w n) g 0 (flatK enc k l'.toArray)) os).ownsRow base e k (.slice (some ⟨g, 0, none⟩) l.length cap) l.length (l'.flatMap enc) := by
  have hsz : (flatK enc k l'.toArray).size = l.length * k := by simp [hl]
  have hle : l.length * k ≤ cap * k := Nat.mul_le_mul_right k h1
  refine ⟨?_, .inr ⟨g, cap, _, rfl, hbase, heap_sortedK _ hb, h1, h2, by simp [putCells, h3], ?_⟩⟩
  · rw [← flatK_list enc k hk h0 l', Array.length_toList, hsz]
  · rw [← hsz, take_putCellsK cur _ (by rw [hsz, h3]; exact hle), flatK_list enc k hk h0]

instance : Inhabited Nm := ⟨⟨0, 0⟩⟩
theorem cmpNm_neg (a b : Nm) : cmpNm a b < 0 ↔ (a.f0 < b.f0 ∨ (a.f0 = b.f0 ∧ a.f1 < b.f1)) := by
  unfold cmpNm cU
  (repeat split) <;> omega
theorem swoNm : SWO (ltOf cmpNm) where
  irrefl x := by simp only [ltOf, decide_eq_false_iff_not, cmpNm_neg]; omega
  trans x y z := by simp only [ltOf, decide_eq_true_eq, cmpNm_neg]; omega
  ntrans x y z := by simp only [ltOf, decide_eq_false_iff_not, cmpNm_neg]; omega
theorem cmpLays (blk off size : Nat) (w : World) : CmpLays Try.prog 35 #[] nmC 2 cmpNm blk off size w := by
  intro m os dk hs x y
  exact (order_any x y _).mono (fun e w' h => ⟨h.1, h.2⟩)
theorem aggNm (w : World) : (isAgg tNm).run Try.prog w = .ok true w := Try.isAgg25 w
theorem sizeNm (w : World) : (Go.sizeOf tNm).run Try.prog w = .ok 2 w := Try.sizeOf25 w
/-- Rising, each once or more. -/
def Rising (ys : List Nm) : Prop := ys.Pairwise (fun a b => ¬ cmpNm b a < 0)

set_option maxHeartbeats 2000000 in
theorem insertion_none (p : Option Addr) (cap : Nat) (fv : Value) (w : World) :
    Calls Try.prog 64 #[.slice p 0 cap, .int .i64 0, .int .i64 0, fv] w fun e w' => e = .returned (.tuple #[]) ∧ w' = w := by
  go_enter Try.func64, Try.ntmps64
  go_wp2
  refine wp_loop_rounds 1 ?_
  rw [rounds_succ]
  go_wp2
  go_end0
  exact ⟨rfl, rfl⟩
set_option maxHeartbeats 2000000 in
theorem pdq_none (p : Option Addr) (cap : Nat) (lim : Int) (fv : Value) (w : World) :
    Calls Try.prog 62 #[.slice p 0 cap, .int .i64 0, .int .i64 0, .int .i64 lim, fv] w fun e w' => e = .returned (.tuple #[]) ∧ w' = w := by
  go_enter Try.func62, Try.ntmps62
  go_wp2
  refine wp_loop_rounds 1 ?_
  rw [rounds_succ]
  go_wp2_with (go_at_call 64; refine (insertion_none _ _ _ _).mono ?_; rintro e w' ⟨rfl, rfl⟩)
  (try simp only [Exit.inBlock, Exit.then]); refine bodyPost_ret (results_none rfl _ _ _) rfl ?_
  exact ⟨rfl, rfl⟩
set_option maxHeartbeats 2000000 in
theorem sort_none (p : Option Addr) (cap : Nat) (fv : Value) (w : World) :
    Calls Try.prog 55 #[.slice p 0 cap, fv] w fun e w' => e = .returned (.tuple #[]) ∧ w' = w := by
  have hl : ∀ W, Calls Try.prog 63 #[.int .u64 0] W fun e w' => e = .returned (.int .i64 (Lib.bitLen 0 : Nat)) ∧ w' = W := fun W => Try.bits_Len 0 W (by omega) (by omega)
  go_enter Try.func55, Try.ntmps55
  go_wp2_with (first | (go_at_call 63; refine (hl _).mono ?_; rintro e w' ⟨rfl, rfl⟩) | (go_at_call 62; refine (pdq_none _ _ _ _ _).mono ?_; rintro e w' ⟨rfl, rfl⟩))
  go_end0
  exact ⟨rfl, rfl⟩
set_option maxHeartbeats 2000000 in
theorem sort_any (v : Value) (xs : List Nm) (b0 : Nat) (w : World) (hv : w.ownsRow b0 tNm 2 v xs.length (xs.flatMap nmC)) (hn : xs.length < 4611686018427387904) :
    Calls Try.prog 55 #[v, .func (.func 35) #[] #[]] w fun e w' => e = .returned (.tuple #[]) ∧ ∃ ys, ys.Perm xs ∧ Rising ys ∧ w'.ownsRow b0 tNm 2 v xs.length (ys.flatMap nmC) ∧ w.grownBy w' v.ownBlock := by
  have hk : ∀ x, (nmC x).length = 2 := fun _ => rfl
  rcases hv.2 with ⟨rfl, h0⟩ | ⟨g, cap, cur, rfl, hbase, hb, h1, h2, h3, h4⟩
  · obtain rfl : xs = [] := List.eq_nil_of_length_eq_zero h0
    refine (sort_none none 0 _ w).mono ?_
    rintro e w' ⟨rfl, rfl⟩
    exact ⟨rfl, [], List.Perm.refl _, List.Pairwise.nil, hv, ⟨rfl, rfl, rfl, Nat.le_refl _, fun _ _ _ => rfl⟩⟩
  · have hH : HoldsK nmC 2 w g 0 xs.toArray := holdsK_block hk (by omega) hb h4
    have hc := Try.slices_SortFunc 2 aggNm sizeNm nmC hk (by intro x v hv; simp [nmC] at hv; rcases hv with rfl | rfl <;> rfl) cmpNm swoNm 35 #[] g 0 cap xs.toArray w (fun args w => by kernel_rfl) (cmpLays _ _ _ _) hH (Array.getElem?_eq_some_iff.1 hb).1 (by simpa using hn)
    rw [List.size_toArray] at hc
    refine hc.mono ?_
    rintro e w' ⟨rfl, d', n, os, ⟨p1, p2, p3⟩, hs, rfl⟩
    have hsz : d'.toList.length = xs.length := by simpa using p1
    refine ⟨rfl, d'.toList, ?_, ?_, ?_, ?_⟩
    · have e1 : d'.extract 0 xs.length = d' := by rw [← hsz, Array.length_toList]; exact Array.extract_size
      have e2 : xs.toArray.extract 0 xs.length = xs.toArray := by
        have : xs.length = xs.toArray.size := by simp
        rw [this]; exact Array.extract_size
      rw [e1, e2] at p3
      simpa using p3
    · rw [Rising, List.pairwise_iff_getElem]
      intro i j hi hj hij
      have h := hs i j (Nat.zero_le _) hij (by omega)
      rw [getElem!_pos d' j (by simpa using hj), getElem!_pos d' i (by simpa using hi)] at h
      simpa [ltOf] using h
    · have := ownsRow_sortedK (n := n) (os := os) (e := tNm) hk (by omega) hsz hbase hb h1 h2 h3
      simpa [sortWorldK, putRowK] using this
    · exact grownBy_sortedK _

set_option maxHeartbeats 1000000 in
theorem sorted_any (g : Nat) (lb : Array Value) (n : Nat) (En : List Nm → Prop) (w0 w : World) (eg : ∀ args w, (callFunc g args).run Try.prog w = .ok (.enter g args) w)
    (hseq : SeqP Try.prog g lb RdNm (fun pre => pre.length ≤ n) En w0) (hb0 : Below w0.heap.size w0 w) (hn : n * 16 ≤ 140737488355328) (hen : ∀ xs, En xs → xs.length ≤ n) :
    Calls Try.prog 39 #[.func (.func g) #[] lb, .func (.func 35) #[] #[]] w fun e w' => ∃ v xs ys, e = .returned v ∧ En xs ∧ ys.Perm xs ∧ Rising ys ∧ w'.ownsRow w.heap.size tNm 2 v ys.length (ys.flatMap nmC) ∧ Below w.heap.size w w' := by
  go_enter Try.func39, Try.ntmps39
  go_wp2_with (go_at_call 54; refine (collect_any g lb n En w0 _ eg hseq hb0 hn).mono ?_; rintro e w1 ⟨v, xs, rfl, hE, ho, hB⟩)
  have hxn := hen xs hE
  obtain ⟨A, c, rfl⟩ := own_slice ho
  go_wp2_with (go_at_call 55; refine (sort_any _ xs w.heap.size _ ho (by omega)).mono ?_; rintro e w2 ⟨rfl, ys, hp, hr, ho2, hg2⟩)
  go_ret
  refine ⟨_, xs, ys, rfl, hE, hp, hr, by rw [hp.length_eq]; exact ho2, hB.grown hg2 hB.size (fun k e => own_base ho k e)⟩
end Go.Proofs.Ytacacigpendneaa.QV
/- Printed by mp.py (this session's) with the kit's print: plain functions with the answers of the Go code, and the proofs of it. -/
namespace Go.Proofs.Ytacacigpendneaa.QV
open Go.RowKit Go.Proofs.YtacacigpendneaaW.PrintWords Go.Proofs.YtacacigpendneaaW.PrintLast Go.Proofs.YtacacigpendneaaW.PrintMore
attribute [local go_sem] max2_int min2_int max_two min_two max_three min_three max_four min_four   -- for this text's walks alone
set_option linter.unusedVariables false
set_option linter.unusedSimpArgs false

theorem eqA25 (d : Nat) (w : World) (x0 y0 : Int) (x1 y1 : Int) :
    (Op.equalIn (d + 2) 25 (.agg #[.int .u64 x0, .int .u32 x1]) (.agg #[.int .u64 y0, .int .u32 y1])).run Try.prog w = .ok (x0 == y0 && (x1 == y1)) w := by
  refine eqA_of Try.underlying25 (by kernel_rfl) ?_
  refine eqf_cons (by rfl) (by go_simp; rfl) (by go_simp; rfl) (by go_simp) ?_
  exact eqf_last (by rfl) (by go_simp; rfl) (by go_simp; rfl) (by go_simp)
end Go.Proofs.Ytacacigpendneaa.QV
/- Printed by mp.py (this session's) with the kit's print: plain functions with the answers of the Go code, and the proofs of it. -/
namespace Go.Proofs.Ytacacigpendneaa.QV
open Go.RowKit Go.Proofs.YtacacigpendneaaW.PrintWords Go.Proofs.YtacacigpendneaaW.PrintLast Go.Proofs.YtacacigpendneaaW.PrintMore
attribute [local go_sem] max2_int min2_int max_two min_two max_three min_three max_four min_four   -- for this text's walks alone
set_option linter.unusedVariables false
set_option linter.unusedSimpArgs false

theorem eqA69 (d : Nat) (w : World) (x0 y0 : Int) (x1 y1 : Bool) (x2 y2 : Int) (x3 y3 : ByteArray) :
    (Op.equalIn (d + 2) 69 (.agg #[.int .i64 x0, .bool x1, .int .i64 x2, .string x3]) (.agg #[.int .i64 y0, .bool y1, .int .i64 y2, .string y3])).run Try.prog w = .ok (x0 == y0 && (x1 == y1 && (x2 == y2 && (x3.toList == y3.toList)))) w := by
  refine eqA_of Try.underlying69 (by kernel_rfl) ?_
  refine eqf_cons (by rfl) (by go_simp; rfl) (by go_simp; rfl) (by go_simp) ?_
  refine eqf_cons (by rfl) (by go_simp; rfl) (by go_simp; rfl) (by go_simp) ?_
  refine eqf_cons (by rfl) (by go_simp; rfl) (by go_simp; rfl) (by go_simp) ?_
  exact eqf_last (by rfl) (by go_simp; rfl) (by go_simp; rfl) (by go_simp)
end Go.Proofs.Ytacacigpendneaa.QV
/- Printed by mp.py (this session's) with the kit's print: plain functions with the answers of the Go code, and the proofs of it. -/
namespace Go.Proofs.Ytacacigpendneaa.QV
open Go.RowKit Go.Proofs.YtacacigpendneaaW.PrintWords Go.Proofs.YtacacigpendneaaW.PrintLast Go.Proofs.YtacacigpendneaaW.PrintMore
attribute [local go_sem] max2_int min2_int max_two min_two max_three min_three max_four min_four   -- for this text's walks alone
set_option linter.unusedVariables false
set_option linter.unusedSimpArgs false

attribute [local go_sem high] eqA25 eqA69
/-! ### hayloftref10_Same: function 16 -/
mutual
def hayloftref10_Same.j0 : Nat → Bool → Int → Int → List (S69) → Int → Int → Int → List (S69) → Int → Option (Bool)
  | 0, _, _, _, _, _, _, _, _, _ => none
  | k + 1, x26, x102000, x102001, x102002, x102003, x103000, x103001, x103002, x103003 => if x26 = true then (some false) else (hayloftref10_Same.l0 k 0 x102000 x102001 x102002 x102003 x103000 x103001 x103002 x103003)
def hayloftref10_Same.l0 : Nat → Int → Int → Int → List (S69) → Int → Int → Int → List (S69) → Int → Option (Bool)
  | 0, _, _, _, _, _, _, _, _, _ => none
  | k + 1, x5, x102000, x102001, x102002, x102003, x103000, x103001, x103002, x103003 => if x5 < (x102002.length : Int) then (if 0 ≤ x5 then (if x5 < (x103002.length : Int) then (if (!(((rd_T69 x102002 x5).f0) == ((rd_T69 x103002 x5).f0)) || (!(((rd_T69 x102002 x5).f1) == ((rd_T69 x103002 x5).f1)) || (!(((rd_T69 x102002 x5).f2) == ((rd_T69 x103002 x5).f2)) || (!((((rd_T69 x102002 x5).f3).toList) == (((rd_T69 x103002 x5).f3).toList)))))) = true then (some false) else (hayloftref10_Same.l0 k (wrap64 (x5 + 1)) x102000 x102001 x102002 x102003 x103000 x103001 x103002 x103003)) else (none)) else (none)) else (some true)
end
def hayloftref10_Same.f (k : Nat) (a0_0 : Int) (a0_1 : Int) (l0_2 : List (S69)) (a0_3 : Int) (a1_0 : Int) (a1_1 : Int) (l1_2 : List (S69)) (a1_3 : Int) : Option (Bool) := if (!(a0_0 == a1_0) || (!(a0_1 == a1_1))) = true then (hayloftref10_Same.j0 k true a0_0 a0_1 l0_2 a0_3 a1_0 a1_1 l1_2 a1_3) else (if a0_3 = a1_3 then (hayloftref10_Same.j0 k ((l0_2.length : Int) != (l1_2.length : Int)) a0_0 a0_1 l0_2 a0_3 a1_0 a1_1 l1_2 a1_3) else (hayloftref10_Same.j0 k true a0_0 a0_1 l0_2 a0_3 a1_0 a1_1 l1_2 a1_3))
theorem hayloftref10_Same.mono_l : ∀ k, (∀ y0 y1 y2 y3 y4 y5 y6 y7 y8, LeO (hayloftref10_Same.j0 k y0 y1 y2 y3 y4 y5 y6 y7 y8) (hayloftref10_Same.j0 (k + 1) y0 y1 y2 y3 y4 y5 y6 y7 y8)) ∧ (∀ y0 y1 y2 y3 y4 y5 y6 y7 y8, LeO (hayloftref10_Same.l0 k y0 y1 y2 y3 y4 y5 y6 y7 y8) (hayloftref10_Same.l0 (k + 1) y0 y1 y2 y3 y4 y5 y6 y7 y8))
  | 0 => ⟨fun _ _ _ _ _ _ _ _ _ r h => by simp [hayloftref10_Same.j0] at h, fun _ _ _ _ _ _ _ _ _ r h => by simp [hayloftref10_Same.l0] at h⟩
  | k + 1 => by
    obtain ⟨ih0, ih1⟩ := hayloftref10_Same.mono_l k
    refine ⟨?_, ?_⟩
    · intro y0 y1 y2 y3 y4 y5 y6 y7 y8
      unfold hayloftref10_Same.j0
      repeat' first
      | (with_reducible exact ih0 _ _ _ _ _ _ _ _ _)
      | (with_reducible exact ih1 _ _ _ _ _ _ _ _ _)
      | (with_reducible exact LeO.refl _)
      | (with_reducible exact LeO.none _)
      | (with_reducible refine LeO.ite ?_ ?_)
      | (with_reducible refine LeO.bind ?_ (fun _ => ?_))
      | exact ih0 _ _ _ _ _ _ _ _ _
      | exact ih1 _ _ _ _ _ _ _ _ _
      | exact LeO.none _
      | refine LeO.ite ?_ ?_
      | refine LeO.bind ?_ (fun _ => ?_)
    · intro y0 y1 y2 y3 y4 y5 y6 y7 y8
      unfold hayloftref10_Same.l0
      repeat' first
      | (with_reducible exact ih0 _ _ _ _ _ _ _ _ _)
      | (with_reducible exact ih1 _ _ _ _ _ _ _ _ _)
      | (with_reducible exact LeO.refl _)
      | (with_reducible exact LeO.none _)
      | (with_reducible refine LeO.ite ?_ ?_)
      | (with_reducible refine LeO.bind ?_ (fun _ => ?_))
      | exact ih0 _ _ _ _ _ _ _ _ _
      | exact ih1 _ _ _ _ _ _ _ _ _
      | exact LeO.none _
      | refine LeO.ite ?_ ?_
      | refine LeO.bind ?_ (fun _ => ?_)
theorem hayloftref10_Same.mono : ∀ a0 a1 a2 a3 a4 a5 a6 a7 k, LeO (hayloftref10_Same.f k a0 a1 a2 a3 a4 a5 a6 a7) (hayloftref10_Same.f (k + 1) a0 a1 a2 a3 a4 a5 a6 a7) := by
  intro a0 a1 a2 a3 a4 a5 a6 a7 k
  obtain ⟨ih0, ih1⟩ := hayloftref10_Same.mono_l k
  unfold hayloftref10_Same.f
  repeat' first
      | (with_reducible exact ih0 _ _ _ _ _ _ _ _ _)
      | (with_reducible exact ih1 _ _ _ _ _ _ _ _ _)
      | (with_reducible exact LeO.refl _)
      | (with_reducible exact LeO.none _)
      | (with_reducible refine LeO.ite ?_ ?_)
      | (with_reducible refine LeO.bind ?_ (fun _ => ?_))
      | exact ih0 _ _ _ _ _ _ _ _ _
      | exact ih1 _ _ _ _ _ _ _ _ _
      | exact LeO.none _
      | refine LeO.ite ?_ ?_
      | refine LeO.bind ?_ (fun _ => ?_)
set_option maxHeartbeats 8000000 in
set_option maxRecDepth 100000 in
theorem hayloftref10_Same.calls (k : Nat) (a0_0 : Int) (a0_1 : Int) (A0_2 : Option Addr) (c0_2 : Nat) (l0_2 : List (S69)) (a0_3 : Int) (a1_0 : Int) (a1_1 : Int) (A1_2 : Option Addr) (c1_2 : Nat) (l1_2 : List (S69)) (a1_3 : Int) (r : Bool) (w : World) (hr0_2 : Kd.C k69 w A0_2 l0_2.length l0_2) (hc0_2 : l0_2.length ≤ c0_2) (hr1_2 : Kd.C k69 w A1_2 l1_2.length l1_2) (hc1_2 : l1_2.length ≤ c1_2) (h : hayloftref10_Same.f k a0_0 a0_1 l0_2 a0_3 a1_0 a1_1 l1_2 a1_3 = some r) :
    Calls Try.prog 16 #[.agg #[.int .u64 a0_0, .int .u32 a0_1, .slice A0_2 l0_2.length c0_2, .int .u64 a0_3], .agg #[.int .u64 a1_0, .int .u32 a1_1, .slice A1_2 l1_2.length c1_2, .int .u64 a1_3]] w fun e w' => e = .returned (.bool r) ∧ Below w.heap.size w w' := by
  have hu29 := Try.underlying29
  have hu25 := Try.underlying25
  have hu69 := Try.underlying69
  have HR0_2 := Aside0.mk hr0_2
  have HC0_2 := Aside0.mk hc0_2
  clear hr0_2 hc0_2
  have HR1_2 := Aside0.mk hr1_2
  have HC1_2 := Aside0.mk hc1_2
  clear hr1_2 hc1_2
  have HB := Aside0.mk (Below.refl w.heap.size w)
  have H : (if (!(a0_0 == a1_0) || (!(a0_1 == a1_1))) = true then (hayloftref10_Same.j0 k true a0_0 a0_1 l0_2 a0_3 a1_0 a1_1 l1_2 a1_3) else (if a0_3 = a1_3 then (hayloftref10_Same.j0 k ((l0_2.length : Int) != (l1_2.length : Int)) a0_0 a0_1 l0_2 a0_3 a1_0 a1_1 l1_2 a1_3) else (hayloftref10_Same.j0 k true a0_0 a0_1 l0_2 a0_3 a1_0 a1_1 l1_2 a1_3))) = some r := h
  clear h
  have HC3 := Aside0.mk H
  clear H
  go_enter Try.func16, Try.ntmps16
  go_upto_region 1 with (first | ((with_reducible refine gate_dst (N := 2) rfl ?_); (try (refine gate_guard (by rfl) ?_; dsimp only)); refine box_event ?hg (N := 2) ?hd (cs := #[.int .u64 a0_0, .int .u32 a0_1, .slice A0_2 l0_2.length c0_2, .int .u64 a0_3]) (t := 29) ?hr ?_; (case hd => rfl); (case hg => rfl); (case hr => first | (go_simp; done) | (go_simp; rfl)); intro gb101 hg w4 hbox hb; have n0_ := Aside0.mk (below_step (by repeat (first | (with_reducible first | exact HB.out | apply below_alloc | apply pw_below_drewN | apply below_drew1) | exact HB.out)) hb); have n1_ := Aside0.mk (hbox); have n2_ := Aside0.mk ((by rw [hg]; exact (below_size (by repeat (first | (with_reducible first | exact HB.out | apply below_alloc | apply pw_below_drewN | apply below_drew1) | exact HB.out))) : w.heap.size ≤ gb101)); have n3_ := Aside0.mk ((by rw [hg]; exact (below_size (by repeat (first | (with_reducible first | exact HB.out | apply below_alloc | apply pw_below_drewN | apply below_drew1) | exact HB.out))) : w.heap.size ≤ gb101)); clear HB; have HB := n0_; have BK101 := n1_; have GW101 := n2_; have GE101 := n3_; clear n0_ n1_ n2_ n3_; clear hb hbox hg) | ((with_reducible refine gate_dst (N := 3) rfl ?_); (try (refine gate_guard (by rfl) ?_; dsimp only)); refine box_event ?hg (N := 3) ?hd (cs := #[.int .u64 a1_0, .int .u32 a1_1, .slice A1_2 l1_2.length c1_2, .int .u64 a1_3]) (t := 29) ?hr ?_; (case hd => rfl); (case hg => rfl); (case hr => first | (go_simp; done) | (go_simp; rfl)); intro gb102 hg w5 hbox hb; have n0_ := Aside0.mk (blk_below (g := gb101) (o := .cells #[.int .u64 a0_0, .int .u32 a0_1, .slice A0_2 l0_2.length c0_2, .int .u64 a0_3] 29 (0, 0)) (by (with_reducible repeat (first | refine blk_drewN ?_ _ | refine blk_drew ?_ | refine blk_alloc ?_ _)); exact BK101.out) hb); have n1_ := Aside0.mk (below_step (by repeat (first | (with_reducible first | exact HB.out | apply below_alloc | apply pw_below_drewN | apply below_drew1 | refine below_set ?_ GE101.out) | exact HB.out)) hb); have n2_ := Aside0.mk (hbox); have n3_ := Aside0.mk ((by rw [hg]; exact (below_size (by repeat (first | (with_reducible first | exact HB.out | apply below_alloc | apply pw_below_drewN | apply below_drew1 | refine below_set ?_ GE101.out) | exact HB.out))) : w.heap.size ≤ gb102)); have n4_ := Aside0.mk ((by rw [hg]; exact (below_size (by repeat (first | (with_reducible first | exact HB.out | apply below_alloc | apply pw_below_drewN | apply below_drew1 | refine below_set ?_ GE101.out) | exact HB.out))) : w.heap.size ≤ gb102)); have n5_ := Aside0.mk ((by rw [hg]; exact Nat.ne_of_lt (blk_lt (g := gb101) (o := .cells #[.int .u64 a0_0, .int .u32 a0_1, .slice A0_2 l0_2.length c0_2, .int .u64 a0_3] 29 (0, 0)) (by (with_reducible repeat (first | refine blk_drewN ?_ _ | refine blk_drew ?_ | refine blk_alloc ?_ _)); exact BK101.out)) : gb101 ≠ gb102)); have n6_ := Aside0.mk ((by rw [hg]; exact Nat.ne_of_gt (blk_lt (g := gb101) (o := .cells #[.int .u64 a0_0, .int .u32 a0_1, .slice A0_2 l0_2.length c0_2, .int .u64 a0_3] 29 (0, 0)) (by (with_reducible repeat (first | refine blk_drewN ?_ _ | refine blk_drew ?_ | refine blk_alloc ?_ _)); exact BK101.out)) : gb102 ≠ gb101)); clear BK101; clear HB; have BK101 := n0_; have HB := n1_; have BK102 := n2_; have GW102 := n3_; have GE102 := n4_; have NB101_102 := n5_; have NB102_101 := n6_; clear n0_ n1_ n2_ n3_ n4_ n5_ n6_; clear hb hbox hg))
  repeat (go_quiet (first | ((with_reducible refine gate_dst (N := 2) rfl ?_); (try (refine gate_guard (by rfl) ?_; dsimp only)); refine box_event ?hg (N := 2) ?hd (cs := #[.int .u64 a0_0, .int .u32 a0_1, .slice A0_2 l0_2.length c0_2, .int .u64 a0_3]) (t := 29) ?hr ?_; (case hd => rfl); (case hg => rfl); (case hr => first | (go_simp; done) | (go_simp; rfl)); intro gb101 hg w4 hbox hb; have n0_ := Aside0.mk (below_step (by repeat (first | (with_reducible first | exact HB.out | apply below_alloc | apply pw_below_drewN | apply below_drew1) | exact HB.out)) hb); have n1_ := Aside0.mk (hbox); have n2_ := Aside0.mk ((by rw [hg]; exact (below_size (by repeat (first | (with_reducible first | exact HB.out | apply below_alloc | apply pw_below_drewN | apply below_drew1) | exact HB.out))) : w.heap.size ≤ gb101)); have n3_ := Aside0.mk ((by rw [hg]; exact (below_size (by repeat (first | (with_reducible first | exact HB.out | apply below_alloc | apply pw_below_drewN | apply below_drew1) | exact HB.out))) : w.heap.size ≤ gb101)); clear HB; have HB := n0_; have BK101 := n1_; have GW101 := n2_; have GE101 := n3_; clear n0_ n1_ n2_ n3_; clear hb hbox hg) | ((with_reducible refine gate_dst (N := 3) rfl ?_); (try (refine gate_guard (by rfl) ?_; dsimp only)); refine box_event ?hg (N := 3) ?hd (cs := #[.int .u64 a1_0, .int .u32 a1_1, .slice A1_2 l1_2.length c1_2, .int .u64 a1_3]) (t := 29) ?hr ?_; (case hd => rfl); (case hg => rfl); (case hr => first | (go_simp; done) | (go_simp; rfl)); intro gb102 hg w5 hbox hb; have n0_ := Aside0.mk (blk_below (g := gb101) (o := .cells #[.int .u64 a0_0, .int .u32 a0_1, .slice A0_2 l0_2.length c0_2, .int .u64 a0_3] 29 (0, 0)) (by (with_reducible repeat (first | refine blk_drewN ?_ _ | refine blk_drew ?_ | refine blk_alloc ?_ _)); exact BK101.out) hb); have n1_ := Aside0.mk (below_step (by repeat (first | (with_reducible first | exact HB.out | apply below_alloc | apply pw_below_drewN | apply below_drew1 | refine below_set ?_ GE101.out) | exact HB.out)) hb); have n2_ := Aside0.mk (hbox); have n3_ := Aside0.mk ((by rw [hg]; exact (below_size (by repeat (first | (with_reducible first | exact HB.out | apply below_alloc | apply pw_below_drewN | apply below_drew1 | refine below_set ?_ GE101.out) | exact HB.out))) : w.heap.size ≤ gb102)); have n4_ := Aside0.mk ((by rw [hg]; exact (below_size (by repeat (first | (with_reducible first | exact HB.out | apply below_alloc | apply pw_below_drewN | apply below_drew1 | refine below_set ?_ GE101.out) | exact HB.out))) : w.heap.size ≤ gb102)); have n5_ := Aside0.mk ((by rw [hg]; exact Nat.ne_of_lt (blk_lt (g := gb101) (o := .cells #[.int .u64 a0_0, .int .u32 a0_1, .slice A0_2 l0_2.length c0_2, .int .u64 a0_3] 29 (0, 0)) (by (with_reducible repeat (first | refine blk_drewN ?_ _ | refine blk_drew ?_ | refine blk_alloc ?_ _)); exact BK101.out)) : gb101 ≠ gb102)); have n6_ := Aside0.mk ((by rw [hg]; exact Nat.ne_of_gt (blk_lt (g := gb101) (o := .cells #[.int .u64 a0_0, .int .u32 a0_1, .slice A0_2 l0_2.length c0_2, .int .u64 a0_3] 29 (0, 0)) (by (with_reducible repeat (first | refine blk_drewN ?_ _ | refine blk_drew ?_ | refine blk_alloc ?_ _)); exact BK101.out)) : gb102 ≠ gb101)); clear BK101; clear HB; have BK101 := n0_; have HB := n1_; have BK102 := n2_; have GW102 := n3_; have GE102 := n4_; have NB101_102 := n5_; have NB102_101 := n6_; clear n0_ n1_ n2_ n3_ n4_ n5_ n6_; clear hb hbox hg)); go_upto_region 1 with (first | ((with_reducible refine gate_dst (N := 2) rfl ?_); (try (refine gate_guard (by rfl) ?_; dsimp only)); refine box_event ?hg (N := 2) ?hd (cs := #[.int .u64 a0_0, .int .u32 a0_1, .slice A0_2 l0_2.length c0_2, .int .u64 a0_3]) (t := 29) ?hr ?_; (case hd => rfl); (case hg => rfl); (case hr => first | (go_simp; done) | (go_simp; rfl)); intro gb101 hg w4 hbox hb; have n0_ := Aside0.mk (below_step (by repeat (first | (with_reducible first | exact HB.out | apply below_alloc | apply pw_below_drewN | apply below_drew1) | exact HB.out)) hb); have n1_ := Aside0.mk (hbox); have n2_ := Aside0.mk ((by rw [hg]; exact (below_size (by repeat (first | (with_reducible first | exact HB.out | apply below_alloc | apply pw_below_drewN | apply below_drew1) | exact HB.out))) : w.heap.size ≤ gb101)); have n3_ := Aside0.mk ((by rw [hg]; exact (below_size (by repeat (first | (with_reducible first | exact HB.out | apply below_alloc | apply pw_below_drewN | apply below_drew1) | exact HB.out))) : w.heap.size ≤ gb101)); clear HB; have HB := n0_; have BK101 := n1_; have GW101 := n2_; have GE101 := n3_; clear n0_ n1_ n2_ n3_; clear hb hbox hg) | ((with_reducible refine gate_dst (N := 3) rfl ?_); (try (refine gate_guard (by rfl) ?_; dsimp only)); refine box_event ?hg (N := 3) ?hd (cs := #[.int .u64 a1_0, .int .u32 a1_1, .slice A1_2 l1_2.length c1_2, .int .u64 a1_3]) (t := 29) ?hr ?_; (case hd => rfl); (case hg => rfl); (case hr => first | (go_simp; done) | (go_simp; rfl)); intro gb102 hg w5 hbox hb; have n0_ := Aside0.mk (blk_below (g := gb101) (o := .cells #[.int .u64 a0_0, .int .u32 a0_1, .slice A0_2 l0_2.length c0_2, .int .u64 a0_3] 29 (0, 0)) (by (with_reducible repeat (first | refine blk_drewN ?_ _ | refine blk_drew ?_ | refine blk_alloc ?_ _)); exact BK101.out) hb); have n1_ := Aside0.mk (below_step (by repeat (first | (with_reducible first | exact HB.out | apply below_alloc | apply pw_below_drewN | apply below_drew1 | refine below_set ?_ GE101.out) | exact HB.out)) hb); have n2_ := Aside0.mk (hbox); have n3_ := Aside0.mk ((by rw [hg]; exact (below_size (by repeat (first | (with_reducible first | exact HB.out | apply below_alloc | apply pw_below_drewN | apply below_drew1 | refine below_set ?_ GE101.out) | exact HB.out))) : w.heap.size ≤ gb102)); have n4_ := Aside0.mk ((by rw [hg]; exact (below_size (by repeat (first | (with_reducible first | exact HB.out | apply below_alloc | apply pw_below_drewN | apply below_drew1 | refine below_set ?_ GE101.out) | exact HB.out))) : w.heap.size ≤ gb102)); have n5_ := Aside0.mk ((by rw [hg]; exact Nat.ne_of_lt (blk_lt (g := gb101) (o := .cells #[.int .u64 a0_0, .int .u32 a0_1, .slice A0_2 l0_2.length c0_2, .int .u64 a0_3] 29 (0, 0)) (by (with_reducible repeat (first | refine blk_drewN ?_ _ | refine blk_drew ?_ | refine blk_alloc ?_ _)); exact BK101.out)) : gb101 ≠ gb102)); have n6_ := Aside0.mk ((by rw [hg]; exact Nat.ne_of_gt (blk_lt (g := gb101) (o := .cells #[.int .u64 a0_0, .int .u32 a0_1, .slice A0_2 l0_2.length c0_2, .int .u64 a0_3] 29 (0, 0)) (by (with_reducible repeat (first | refine blk_drewN ?_ _ | refine blk_drew ?_ | refine blk_alloc ?_ _)); exact BK101.out)) : gb102 ≠ gb101)); clear BK101; clear HB; have BK101 := n0_; have HB := n1_; have BK102 := n2_; have GW102 := n3_; have GE102 := n4_; have NB101_102 := n5_; have NB102_101 := n6_; clear n0_ n1_ n2_ n3_ n4_ n5_ n6_; clear hb hbox hg)))
  (try simp only [Act.put, List.setIfInBounds_toArray, List.set_cons_zero, List.set_cons_succ])
  go_cut [26] (fun v26 wc => ∃ (kq : Nat) (x26_2 : Bool), v26 = .bool x26_2 ∧ Aside0 (hayloftref10_Same.j0 kq x26_2 a0_0 a0_1 l0_2 a0_3 a1_0 a1_1 l1_2 a1_3 = some r) ∧ Aside0 (kq ≤ k) ∧ Aside0 (wc.heap[gb101]? = some (.cells #[.int .u64 a0_0, .int .u32 a0_1, (.slice A0_2 l0_2.length c0_2), .int .u64 a0_3] 29 (0, 0))) ∧ Aside0 (wc.heap[gb102]? = some (.cells #[.int .u64 a1_0, .int .u32 a1_1, (.slice A1_2 l1_2.length c1_2), .int .u64 a1_3] 29 (0, 0))) ∧ Aside0 (Below w.heap.size w wc))
  case first =>
    have H := HC3.out
    clear HC3
    by_cases c6 : (!(a0_0 == a1_0) || (!(a0_1 == a1_1))) = true
    · rw [if_pos c6] at H
      have c6b0 : (!(a0_0 == a1_0) || (!(a0_1 == a1_1))) = true := c6
      clear c6
      (first | rw [c6b0] | (simp only [i64_w, i32_w]; rw [c6b0]) | skip)
      have H' := Aside0.mk H
      clear H
      have hnb7 := NB101_102.out
      have hnc7 := NB102_101.out
      have hcz8_0 : w5.cell? ⟨gb101, 0, none⟩ = some (.int .u64 a0_0) := (blk_cell BK101.out 0).trans rfl
      have hcz8_1 : w5.cell? ⟨gb101, 1, none⟩ = some (.int .u32 a0_1) := (blk_cell BK101.out 1).trans rfl
      have hcz8_2 : w5.cell? ⟨gb101, 2, none⟩ = some (.slice A0_2 l0_2.length c0_2) := (blk_cell BK101.out 2).trans rfl
      have hcz8_3 : w5.cell? ⟨gb101, 3, none⟩ = some (.int .u64 a0_3) := (blk_cell BK101.out 3).trans rfl
      have hfz8_0 := blk_frozen BK101.out 0
      have hfz8_1 := blk_frozen BK101.out 1
      have hfz8_2 := blk_frozen BK101.out 2
      have hfz8_3 := blk_frozen BK101.out 3
      have hcz9_0 : w5.cell? ⟨gb102, 0, none⟩ = some (.int .u64 a1_0) := (blk_cell BK102.out 0).trans rfl
      have hcz9_1 : w5.cell? ⟨gb102, 1, none⟩ = some (.int .u32 a1_1) := (blk_cell BK102.out 1).trans rfl
      have hcz9_2 : w5.cell? ⟨gb102, 2, none⟩ = some (.slice A1_2 l1_2.length c1_2) := (blk_cell BK102.out 2).trans rfl
      have hcz9_3 : w5.cell? ⟨gb102, 3, none⟩ = some (.int .u64 a1_3) := (blk_cell BK102.out 3).trans rfl
      have hfz9_0 := blk_frozen BK102.out 0
      have hfz9_1 := blk_frozen BK102.out 1
      have hfz9_2 := blk_frozen BK102.out 2
      have hfz9_3 := blk_frozen BK102.out 3
      go_wp2
      repeat (go_quiet (fail); try go_wp2)
      go_meet
      case rel => exact ⟨_, (true), (by first | rfl | (simp; done) | (simp [*]; done)), H', ⟨by first | omega | exact Nat.le_refl _⟩, ⟨by (with_reducible repeat (first | refine blk_drewN ?_ _ | refine blk_drew ?_ | refine blk_alloc ?_ _)); exact BK101.out⟩, ⟨by (with_reducible repeat (first | refine blk_drewN ?_ _ | refine blk_drew ?_ | refine blk_alloc ?_ _)); exact BK102.out⟩, ⟨by repeat (first | (with_reducible first | exact HB.out | apply below_alloc | apply pw_below_drewN | apply below_drew1 | refine below_set ?_ GE101.out | refine below_set ?_ GE102.out) | exact HB.out)⟩⟩
    · rw [if_neg c6] at H
      have c6b0 : (!(a0_0 == a1_0) || (!(a0_1 == a1_1))) = false := by simpa using c6
      clear c6
      (first | rw [c6b0] | (simp only [i64_w, i32_w]; rw [c6b0]) | skip)
      by_cases c10 : a0_3 = a1_3
      · rw [if_pos c10] at H
        have c10b0 : (a0_3 == a1_3) = true := beq_iff_eq.mpr c10
        have c10b1 : (a0_3 != a1_3) = false := bne_eq_false_iff_eq.mpr c10
        clear c10
        have H' := Aside0.mk H
        clear H
        have hnb11 := NB101_102.out
        have hnc11 := NB102_101.out
        have hcz12_0 : w5.cell? ⟨gb101, 0, none⟩ = some (.int .u64 a0_0) := (blk_cell BK101.out 0).trans rfl
        have hcz12_1 : w5.cell? ⟨gb101, 1, none⟩ = some (.int .u32 a0_1) := (blk_cell BK101.out 1).trans rfl
        have hcz12_2 : w5.cell? ⟨gb101, 2, none⟩ = some (.slice A0_2 l0_2.length c0_2) := (blk_cell BK101.out 2).trans rfl
        have hcz12_3 : w5.cell? ⟨gb101, 3, none⟩ = some (.int .u64 a0_3) := (blk_cell BK101.out 3).trans rfl
        have hfz12_0 := blk_frozen BK101.out 0
        have hfz12_1 := blk_frozen BK101.out 1
        have hfz12_2 := blk_frozen BK101.out 2
        have hfz12_3 := blk_frozen BK101.out 3
        have hcz13_0 : w5.cell? ⟨gb102, 0, none⟩ = some (.int .u64 a1_0) := (blk_cell BK102.out 0).trans rfl
        have hcz13_1 : w5.cell? ⟨gb102, 1, none⟩ = some (.int .u32 a1_1) := (blk_cell BK102.out 1).trans rfl
        have hcz13_2 : w5.cell? ⟨gb102, 2, none⟩ = some (.slice A1_2 l1_2.length c1_2) := (blk_cell BK102.out 2).trans rfl
        have hcz13_3 : w5.cell? ⟨gb102, 3, none⟩ = some (.int .u64 a1_3) := (blk_cell BK102.out 3).trans rfl
        have hfz13_0 := blk_frozen BK102.out 0
        have hfz13_1 := blk_frozen BK102.out 1
        have hfz13_2 := blk_frozen BK102.out 2
        have hfz13_3 := blk_frozen BK102.out 3
        go_wp2
        repeat (go_quiet (fail); try go_wp2)
        go_meet
        case rel => exact ⟨_, (((l0_2.length : Int) != (l1_2.length : Int))), (by first | rfl | (simp; done) | (simp [*]; done)), H', ⟨by first | omega | exact Nat.le_refl _⟩, ⟨by (with_reducible repeat (first | refine blk_drewN ?_ _ | refine blk_drew ?_ | refine blk_alloc ?_ _)); exact BK101.out⟩, ⟨by (with_reducible repeat (first | refine blk_drewN ?_ _ | refine blk_drew ?_ | refine blk_alloc ?_ _)); exact BK102.out⟩, ⟨by repeat (first | (with_reducible first | exact HB.out | apply below_alloc | apply pw_below_drewN | apply below_drew1 | refine below_set ?_ GE101.out | refine below_set ?_ GE102.out) | exact HB.out)⟩⟩
      · rw [if_neg c10] at H
        have c10b0 : (a0_3 == a1_3) = false := beq_eq_false_iff_ne.mpr c10
        have c10b1 : (a0_3 != a1_3) = true := bne_iff_ne.mpr c10
        have H' := Aside0.mk H
        clear H
        have hnb14 := NB101_102.out
        have hnc14 := NB102_101.out
        have hcz15_0 : w5.cell? ⟨gb101, 0, none⟩ = some (.int .u64 a0_0) := (blk_cell BK101.out 0).trans rfl
        have hcz15_1 : w5.cell? ⟨gb101, 1, none⟩ = some (.int .u32 a0_1) := (blk_cell BK101.out 1).trans rfl
        have hcz15_2 : w5.cell? ⟨gb101, 2, none⟩ = some (.slice A0_2 l0_2.length c0_2) := (blk_cell BK101.out 2).trans rfl
        have hcz15_3 : w5.cell? ⟨gb101, 3, none⟩ = some (.int .u64 a0_3) := (blk_cell BK101.out 3).trans rfl
        have hfz15_0 := blk_frozen BK101.out 0
        have hfz15_1 := blk_frozen BK101.out 1
        have hfz15_2 := blk_frozen BK101.out 2
        have hfz15_3 := blk_frozen BK101.out 3
        have hcz16_0 : w5.cell? ⟨gb102, 0, none⟩ = some (.int .u64 a1_0) := (blk_cell BK102.out 0).trans rfl
        have hcz16_1 : w5.cell? ⟨gb102, 1, none⟩ = some (.int .u32 a1_1) := (blk_cell BK102.out 1).trans rfl
        have hcz16_2 : w5.cell? ⟨gb102, 2, none⟩ = some (.slice A1_2 l1_2.length c1_2) := (blk_cell BK102.out 2).trans rfl
        have hcz16_3 : w5.cell? ⟨gb102, 3, none⟩ = some (.int .u64 a1_3) := (blk_cell BK102.out 3).trans rfl
        have hfz16_0 := blk_frozen BK102.out 0
        have hfz16_1 := blk_frozen BK102.out 1
        have hfz16_2 := blk_frozen BK102.out 2
        have hfz16_3 := blk_frozen BK102.out 3
        go_wp2
        repeat (go_quiet (fail); try go_wp2)
        go_meet
        case rel => exact ⟨_, (true), (by first | rfl | (simp; done) | (simp [*]; done)), H', ⟨by first | omega | exact Nat.le_refl _⟩, ⟨by (with_reducible repeat (first | refine blk_drewN ?_ _ | refine blk_drew ?_ | refine blk_alloc ?_ _)); exact BK101.out⟩, ⟨by (with_reducible repeat (first | refine blk_drewN ?_ _ | refine blk_drew ?_ | refine blk_alloc ?_ _)); exact BK102.out⟩, ⟨by repeat (first | (with_reducible first | exact HB.out | apply below_alloc | apply pw_below_drewN | apply below_drew1 | refine below_set ?_ GE101.out | refine below_set ?_ GE102.out) | exact HB.out)⟩⟩
  case rest =>
    clear HC3
    try clear c1
    try clear p2
    try clear c6
    try clear c6b0
    try clear c7
    try clear c10
    try clear c10b0
    try clear c10b1
    try clear c11
    try clear c14
    try clear c16
    try clear hcz12_0
    try clear hcz12_1
    try clear hcz12_2
    try clear hcz12_3
    try clear hcz13_0
    try clear hcz13_1
    try clear hcz13_2
    try clear hcz13_3
    try clear hcz15_0
    try clear hcz15_1
    try clear hcz15_2
    try clear hcz15_3
    try clear hcz16_0
    try clear hcz16_1
    try clear hcz16_2
    try clear hcz16_3
    try clear hcz8_0
    try clear hcz8_1
    try clear hcz8_2
    try clear hcz8_3
    try clear hcz9_0
    try clear hcz9_1
    try clear hcz9_2
    try clear hcz9_3
    try clear hfz12_0
    try clear hfz12_1
    try clear hfz12_2
    try clear hfz12_3
    try clear hfz13_0
    try clear hfz13_1
    try clear hfz13_2
    try clear hfz13_3
    try clear hfz15_0
    try clear hfz15_1
    try clear hfz15_2
    try clear hfz15_3
    try clear hfz16_0
    try clear hfz16_1
    try clear hfz16_2
    try clear hfz16_3
    try clear hfz8_0
    try clear hfz8_1
    try clear hfz8_2
    try clear hfz8_3
    try clear hfz9_0
    try clear hfz9_1
    try clear hfz9_2
    try clear hfz9_3
    obtain ⟨kq, x26_2, rfl, HA, HJ2, BK101, BK102, HB⟩ := hcut
    cases kq with
    | zero => exact absurd HA.out (by simp [hayloftref10_Same.j0])
    | succ kj2 =>
      have H := HA.out
      clear HA
      simp only [hayloftref10_Same.j0] at H
      by_cases c17 : x26_2 = true
      · subst c17
        have H1 : (some false) = some r := by rw [if_pos rfl] at H; exact H
        clear H
        have H := H1
        clear H1
        obtain rfl := Option.some.inj H
        go_wp2
        repeat (go_quiet (fail); try go_wp2)
        go_ret
        exact ⟨by first | rfl | (simp [errW_none, errW_some] <;> rfl) | (simp [*, errW_none, errW_some] <;> rfl), by repeat (first | (with_reducible first | exact HB.out | apply below_alloc | apply pw_below_drewN | apply below_drew1 | refine below_set ?_ GE101.out | refine below_set ?_ GE102.out) | exact HB.out)⟩
      · replace c17 := Bool.eq_false_iff.mpr c17
        subst c17
        have H1 : (hayloftref10_Same.l0 kj2 0 a0_0 a0_1 l0_2 a0_3 a1_0 a1_1 l1_2 a1_3) = some r := by rw [if_neg (show ¬ (false = true) by decide)] at H; exact H
        clear H
        have H := H1
        clear H1
        have H' := Aside0.mk H
        clear H
        go_wp2
        repeat (go_quiet (fail); try go_wp2)
        go_loopg [5] kj2 (fun kq v5 w' => ∃ (x5_2 : Int), v5 = .int .i64 x5_2 ∧ Aside0 (hayloftref10_Same.l0 kq x5_2 a0_0 a0_1 l0_2 a0_3 a1_0 a1_1 l1_2 a1_3 = some r) ∧ Aside0 (kq ≤ kj2) ∧ Aside0 (w'.heap[gb101]? = some (.cells #[.int .u64 a0_0, .int .u32 a0_1, (.slice A0_2 l0_2.length c0_2), .int .u64 a0_3] 29 (0, 0))) ∧ Aside0 (w'.heap[gb102]? = some (.cells #[.int .u64 a1_0, .int .u32 a1_1, (.slice A1_2 l1_2.length c1_2), .int .u64 a1_3] 29 (0, 0))) ∧ Aside0 (Below w.heap.size w w'))
        case atStart => exact ⟨(0), (by first | rfl | (simp; done) | (simp [*]; done)), H', ⟨Nat.le_refl _⟩, ⟨by (with_reducible repeat (first | refine blk_drewN ?_ _ | refine blk_drew ?_ | refine blk_alloc ?_ _)); exact BK101.out⟩, ⟨by (with_reducible repeat (first | refine blk_drewN ?_ _ | refine blk_drew ?_ | refine blk_alloc ?_ _)); exact BK102.out⟩, ⟨by repeat (first | (with_reducible first | exact HB.out | apply below_alloc | apply pw_below_drewN | apply below_drew1 | refine below_set ?_ GE101.out | refine below_set ?_ GE102.out) | exact HB.out)⟩⟩
        case round =>
          clear H'
          try clear c1
          try clear p2
          try clear c6
          try clear c6b0
          try clear c7
          try clear c10
          try clear c10b0
          try clear c10b1
          try clear c11
          try clear c14
          try clear c16
          try clear c17
          try clear hcz12_0
          try clear hcz12_1
          try clear hcz12_2
          try clear hcz12_3
          try clear hcz13_0
          try clear hcz13_1
          try clear hcz13_2
          try clear hcz13_3
          try clear hcz15_0
          try clear hcz15_1
          try clear hcz15_2
          try clear hcz15_3
          try clear hcz16_0
          try clear hcz16_1
          try clear hcz16_2
          try clear hcz16_3
          try clear hcz8_0
          try clear hcz8_1
          try clear hcz8_2
          try clear hcz8_3
          try clear hcz9_0
          try clear hcz9_1
          try clear hcz9_2
          try clear hcz9_3
          try clear hfz12_0
          try clear hfz12_1
          try clear hfz12_2
          try clear hfz12_3
          try clear hfz13_0
          try clear hfz13_1
          try clear hfz13_2
          try clear hfz13_3
          try clear hfz15_0
          try clear hfz15_1
          try clear hfz15_2
          try clear hfz15_3
          try clear hfz16_0
          try clear hfz16_1
          try clear hfz16_2
          try clear hfz16_3
          try clear hfz8_0
          try clear hfz8_1
          try clear hfz8_2
          try clear hfz8_3
          try clear hfz9_0
          try clear hfz9_1
          try clear hfz9_2
          try clear hfz9_3
          try clear p2
          obtain ⟨x5_2, rfl, HA, HK2, BK101, BK102, HB⟩ := hrel
          cases gk with
          | zero => exact absurd HA.out (by simp [hayloftref10_Same.l0])
          | succ k2 =>
            have H := HA.out
            clear HA
            simp only [hayloftref10_Same.l0] at H
            by_cases c18 : x5_2 < (l0_2.length : Int)
            · rw [if_pos c18] at H
              have c18b0 : decide (x5_2 < (l0_2.length : Int)) = true := decide_eq_true c18
              clear c18
              by_cases c19 : 0 ≤ x5_2
              · rw [if_pos c19] at H
                have c19b0 : decide (0 ≤ x5_2) = true := decide_eq_true c19
                clear c19
                by_cases c20 : x5_2 < (l1_2.length : Int)
                · rw [if_pos c20] at H
                  have c20b0 : decide (x5_2 < (l1_2.length : Int)) = true := decide_eq_true c20
                  clear c20
                  by_cases c21 : (!(((rd_T69 l0_2 x5_2).f0) == ((rd_T69 l1_2 x5_2).f0)) || (!(((rd_T69 l0_2 x5_2).f1) == ((rd_T69 l1_2 x5_2).f1)) || (!(((rd_T69 l0_2 x5_2).f2) == ((rd_T69 l1_2 x5_2).f2)) || (!((((rd_T69 l0_2 x5_2).f3).toList) == (((rd_T69 l1_2 x5_2).f3).toList)))))) = true
                  · rw [if_pos c21] at H
                    have c21b0 : (!(((rd_T69 l0_2 x5_2).f0) == ((rd_T69 l1_2 x5_2).f0)) || (!(((rd_T69 l0_2 x5_2).f1) == ((rd_T69 l1_2 x5_2).f1)) || (!(((rd_T69 l0_2 x5_2).f2) == ((rd_T69 l1_2 x5_2).f2)) || (!((((rd_T69 l0_2 x5_2).f3).toList) == (((rd_T69 l1_2 x5_2).f3).toList)))))) = true := c21
                    clear c21
                    obtain rfl := Option.some.inj H
                    have hnb22 := NB101_102.out
                    have hnc22 := NB102_101.out
                    have hcz23_0 : wr.cell? ⟨gb101, 0, none⟩ = some (.int .u64 a0_0) := (blk_cell BK101.out 0).trans rfl
                    have hcz23_1 : wr.cell? ⟨gb101, 1, none⟩ = some (.int .u32 a0_1) := (blk_cell BK101.out 1).trans rfl
                    have hcz23_2 : wr.cell? ⟨gb101, 2, none⟩ = some (.slice A0_2 l0_2.length c0_2) := (blk_cell BK101.out 2).trans rfl
                    have hcz23_3 : wr.cell? ⟨gb101, 3, none⟩ = some (.int .u64 a0_3) := (blk_cell BK101.out 3).trans rfl
                    have hfz23_0 := blk_frozen BK101.out 0
                    have hfz23_1 := blk_frozen BK101.out 1
                    have hfz23_2 := blk_frozen BK101.out 2
                    have hfz23_3 := blk_frozen BK101.out 3
                    have p103 : 0 ≤ (x5_2 : Int) := of_decide_eq_true (by first | (with_reducible assumption) | assumption)
                    have q103 : x5_2 < (l0_2.length : Int) := of_decide_eq_true (by first | (with_reducible assumption) | assumption)
                    obtain ⟨ad103, e103, hx103_0, hx103_1, hx103_2, hx103_3⟩ := at_T69 HR0_2.out x5_2 p103 q103
                    cases e103
                    replace hx103_0 := (HB.out.cell (World.block_lt_of_cell? w _ hx103_0)).trans hx103_0
                    replace hx103_1 := (HB.out.cell (World.block_lt_of_cell? w _ hx103_1)).trans hx103_1
                    replace hx103_2 := (HB.out.cell (World.block_lt_of_cell? w _ hx103_2)).trans hx103_2
                    replace hx103_3 := (HB.out.cell (World.block_lt_of_cell? w _ hx103_3)).trans hx103_3
                    replace p103 := eq_true p103
                    replace q103 := eq_true q103
                    have hcz24_0 : wr.cell? ⟨gb102, 0, none⟩ = some (.int .u64 a1_0) := (blk_cell BK102.out 0).trans rfl
                    have hcz24_1 : wr.cell? ⟨gb102, 1, none⟩ = some (.int .u32 a1_1) := (blk_cell BK102.out 1).trans rfl
                    have hcz24_2 : wr.cell? ⟨gb102, 2, none⟩ = some (.slice A1_2 l1_2.length c1_2) := (blk_cell BK102.out 2).trans rfl
                    have hcz24_3 : wr.cell? ⟨gb102, 3, none⟩ = some (.int .u64 a1_3) := (blk_cell BK102.out 3).trans rfl
                    have hfz24_0 := blk_frozen BK102.out 0
                    have hfz24_1 := blk_frozen BK102.out 1
                    have hfz24_2 := blk_frozen BK102.out 2
                    have hfz24_3 := blk_frozen BK102.out 3
                    have p104 : 0 ≤ (x5_2 : Int) := of_decide_eq_true (by first | (with_reducible assumption) | assumption)
                    have q104 : x5_2 < (l1_2.length : Int) := of_decide_eq_true (by first | (with_reducible assumption) | assumption)
                    obtain ⟨ad104, e104, hx104_0, hx104_1, hx104_2, hx104_3⟩ := at_T69 HR1_2.out x5_2 p104 q104
                    cases e104
                    replace hx104_0 := (HB.out.cell (World.block_lt_of_cell? w _ hx104_0)).trans hx104_0
                    replace hx104_1 := (HB.out.cell (World.block_lt_of_cell? w _ hx104_1)).trans hx104_1
                    replace hx104_2 := (HB.out.cell (World.block_lt_of_cell? w _ hx104_2)).trans hx104_2
                    replace hx104_3 := (HB.out.cell (World.block_lt_of_cell? w _ hx104_3)).trans hx104_3
                    replace p104 := eq_true p104
                    replace q104 := eq_true q104
                    go_wp2
                    repeat (go_quiet (fail); try go_wp2)
                    go_ret
                    exact ⟨by first | rfl | (simp [errW_none, errW_some] <;> rfl) | (simp [*, errW_none, errW_some] <;> rfl), by repeat (first | (with_reducible first | exact HB.out | apply below_alloc | apply pw_below_drewN | apply below_drew1 | refine below_set ?_ GE101.out | refine below_set ?_ GE102.out) | exact HB.out)⟩
                  · rw [if_neg c21] at H
                    have c21b0 : (!(((rd_T69 l0_2 x5_2).f0) == ((rd_T69 l1_2 x5_2).f0)) || (!(((rd_T69 l0_2 x5_2).f1) == ((rd_T69 l1_2 x5_2).f1)) || (!(((rd_T69 l0_2 x5_2).f2) == ((rd_T69 l1_2 x5_2).f2)) || (!((((rd_T69 l0_2 x5_2).f3).toList) == (((rd_T69 l1_2 x5_2).f3).toList)))))) = false := by simpa using c21
                    clear c21
                    have H' := Aside0.mk H
                    clear H
                    have hnb25 := NB101_102.out
                    have hnc25 := NB102_101.out
                    have hcz26_0 : wr.cell? ⟨gb101, 0, none⟩ = some (.int .u64 a0_0) := (blk_cell BK101.out 0).trans rfl
                    have hcz26_1 : wr.cell? ⟨gb101, 1, none⟩ = some (.int .u32 a0_1) := (blk_cell BK101.out 1).trans rfl
                    have hcz26_2 : wr.cell? ⟨gb101, 2, none⟩ = some (.slice A0_2 l0_2.length c0_2) := (blk_cell BK101.out 2).trans rfl
                    have hcz26_3 : wr.cell? ⟨gb101, 3, none⟩ = some (.int .u64 a0_3) := (blk_cell BK101.out 3).trans rfl
                    have hfz26_0 := blk_frozen BK101.out 0
                    have hfz26_1 := blk_frozen BK101.out 1
                    have hfz26_2 := blk_frozen BK101.out 2
                    have hfz26_3 := blk_frozen BK101.out 3
                    have p103 : 0 ≤ (x5_2 : Int) := of_decide_eq_true (by first | (with_reducible assumption) | assumption)
                    have q103 : x5_2 < (l0_2.length : Int) := of_decide_eq_true (by first | (with_reducible assumption) | assumption)
                    obtain ⟨ad103, e103, hx103_0, hx103_1, hx103_2, hx103_3⟩ := at_T69 HR0_2.out x5_2 p103 q103
                    cases e103
                    replace hx103_0 := (HB.out.cell (World.block_lt_of_cell? w _ hx103_0)).trans hx103_0
                    replace hx103_1 := (HB.out.cell (World.block_lt_of_cell? w _ hx103_1)).trans hx103_1
                    replace hx103_2 := (HB.out.cell (World.block_lt_of_cell? w _ hx103_2)).trans hx103_2
                    replace hx103_3 := (HB.out.cell (World.block_lt_of_cell? w _ hx103_3)).trans hx103_3
                    replace p103 := eq_true p103
                    replace q103 := eq_true q103
                    have hcz27_0 : wr.cell? ⟨gb102, 0, none⟩ = some (.int .u64 a1_0) := (blk_cell BK102.out 0).trans rfl
                    have hcz27_1 : wr.cell? ⟨gb102, 1, none⟩ = some (.int .u32 a1_1) := (blk_cell BK102.out 1).trans rfl
                    have hcz27_2 : wr.cell? ⟨gb102, 2, none⟩ = some (.slice A1_2 l1_2.length c1_2) := (blk_cell BK102.out 2).trans rfl
                    have hcz27_3 : wr.cell? ⟨gb102, 3, none⟩ = some (.int .u64 a1_3) := (blk_cell BK102.out 3).trans rfl
                    have hfz27_0 := blk_frozen BK102.out 0
                    have hfz27_1 := blk_frozen BK102.out 1
                    have hfz27_2 := blk_frozen BK102.out 2
                    have hfz27_3 := blk_frozen BK102.out 3
                    have p104 : 0 ≤ (x5_2 : Int) := of_decide_eq_true (by first | (with_reducible assumption) | assumption)
                    have q104 : x5_2 < (l1_2.length : Int) := of_decide_eq_true (by first | (with_reducible assumption) | assumption)
                    obtain ⟨ad104, e104, hx104_0, hx104_1, hx104_2, hx104_3⟩ := at_T69 HR1_2.out x5_2 p104 q104
                    cases e104
                    replace hx104_0 := (HB.out.cell (World.block_lt_of_cell? w _ hx104_0)).trans hx104_0
                    replace hx104_1 := (HB.out.cell (World.block_lt_of_cell? w _ hx104_1)).trans hx104_1
                    replace hx104_2 := (HB.out.cell (World.block_lt_of_cell? w _ hx104_2)).trans hx104_2
                    replace hx104_3 := (HB.out.cell (World.block_lt_of_cell? w _ hx104_3)).trans hx104_3
                    replace p104 := eq_true p104
                    replace q104 := eq_true q104
                    go_wp2
                    repeat (go_quiet (fail); try go_wp2)
                    go_roundg k2
                    case measure => have := HJ2.out; have := HK2.out; omega
                    case rel => exact ⟨(wrap64 (x5_2 + 1)), (by first | rfl | (simp; done) | (simp [*]; done)), H', ⟨by have := HJ2.out; have := HK2.out; omega⟩, ⟨by (with_reducible repeat (first | refine blk_drewN ?_ _ | refine blk_drew ?_ | refine blk_alloc ?_ _)); exact BK101.out⟩, ⟨by (with_reducible repeat (first | refine blk_drewN ?_ _ | refine blk_drew ?_ | refine blk_alloc ?_ _)); exact BK102.out⟩, ⟨by repeat (first | (with_reducible first | exact HB.out | apply below_alloc | apply pw_below_drewN | apply below_drew1 | refine below_set ?_ GE101.out | refine below_set ?_ GE102.out) | exact HB.out)⟩⟩
                · rw [if_neg c20] at H
                  exact absurd H (by simp)
              · rw [if_neg c19] at H
                exact absurd H (by simp)
            · rw [if_neg c18] at H
              have c18b0 : decide (x5_2 < (l0_2.length : Int)) = false := decide_eq_false c18
              clear c18
              obtain rfl := Option.some.inj H
              have hnb28 := NB101_102.out
              have hnc28 := NB102_101.out
              have hcz29_0 : wr.cell? ⟨gb101, 0, none⟩ = some (.int .u64 a0_0) := (blk_cell BK101.out 0).trans rfl
              have hcz29_1 : wr.cell? ⟨gb101, 1, none⟩ = some (.int .u32 a0_1) := (blk_cell BK101.out 1).trans rfl
              have hcz29_2 : wr.cell? ⟨gb101, 2, none⟩ = some (.slice A0_2 l0_2.length c0_2) := (blk_cell BK101.out 2).trans rfl
              have hcz29_3 : wr.cell? ⟨gb101, 3, none⟩ = some (.int .u64 a0_3) := (blk_cell BK101.out 3).trans rfl
              have hfz29_0 := blk_frozen BK101.out 0
              have hfz29_1 := blk_frozen BK101.out 1
              have hfz29_2 := blk_frozen BK101.out 2
              have hfz29_3 := blk_frozen BK101.out 3
              go_wp2
              repeat (go_quiet (fail); try go_wp2)
              go_ret
              exact ⟨by first | rfl | (simp [errW_none, errW_some] <;> rfl) | (simp [*, errW_none, errW_some] <;> rfl), by repeat (first | (with_reducible first | exact HB.out | apply below_alloc | apply pw_below_drewN | apply below_drew1 | refine below_set ?_ GE101.out | refine below_set ?_ GE102.out) | exact HB.out)⟩

/-! ### hayloftref10_SameAll: function 21 -/
def hayloftref10_SameAll.l0 : Nat → List (S29) → List (S29) → Int → Option (Bool)
  | 0, _, _, _ => none
  | k + 1, x0, x1, x5 => if x5 < (x0.length : Int) then (if 0 ≤ x5 then (if x5 < (x1.length : Int) then ((hayloftref10_Same.f k ((rd_T29 x0 x5).f0.f0) ((rd_T29 x0 x5).f0.f1) ((rd_T29 x0 x5).f1) ((rd_T29 x0 x5).f2) ((rd_T29 x1 x5).f0.f0) ((rd_T29 x1 x5).f0.f1) ((rd_T29 x1 x5).f1) ((rd_T29 x1 x5).f2)).bind fun t107 => (if t107 = true then (hayloftref10_SameAll.l0 k x0 x1 (wrap64 (x5 + 1))) else (some false))) else (none)) else (none)) else (some true)
def hayloftref10_SameAll.f (k : Nat) (l0 : List (S29)) (l1 : List (S29)) : Option (Bool) := if (l0.length : Int) = (l1.length : Int) then (hayloftref10_SameAll.l0 k l0 l1 0) else (some false)
theorem hayloftref10_SameAll.mono_l : ∀ k, (∀ y0 y1 y2, LeO (hayloftref10_SameAll.l0 k y0 y1 y2) (hayloftref10_SameAll.l0 (k + 1) y0 y1 y2))
  | 0 => fun _ _ _ r h => by simp [hayloftref10_SameAll.l0] at h
  | k + 1 => by
    have ih0 := hayloftref10_SameAll.mono_l k
    · intro y0 y1 y2
      unfold hayloftref10_SameAll.l0
      repeat' first
      | (with_reducible exact ih0 _ _ _)
      | (with_reducible exact hayloftref10_Same.mono _ _ _ _ _ _ _ _ _)
      | (with_reducible exact LeO.refl _)
      | (with_reducible exact LeO.none _)
      | (with_reducible refine LeO.ite ?_ ?_)
      | (with_reducible refine LeO.bind ?_ (fun _ => ?_))
      | exact ih0 _ _ _
      | exact hayloftref10_Same.mono _ _ _ _ _ _ _ _ _
      | exact LeO.none _
      | refine LeO.ite ?_ ?_
      | refine LeO.bind ?_ (fun _ => ?_)
theorem hayloftref10_SameAll.mono : ∀ a0 a1 k, LeO (hayloftref10_SameAll.f k a0 a1) (hayloftref10_SameAll.f (k + 1) a0 a1) := by
  intro a0 a1 k
  have ih0 := hayloftref10_SameAll.mono_l k
  unfold hayloftref10_SameAll.f
  repeat' first
      | (with_reducible exact ih0 _ _ _)
      | (with_reducible exact hayloftref10_Same.mono _ _ _ _ _ _ _ _ _)
      | (with_reducible exact LeO.refl _)
      | (with_reducible exact LeO.none _)
      | (with_reducible refine LeO.ite ?_ ?_)
      | (with_reducible refine LeO.bind ?_ (fun _ => ?_))
      | exact ih0 _ _ _
      | exact hayloftref10_Same.mono _ _ _ _ _ _ _ _ _
      | exact LeO.none _
      | refine LeO.ite ?_ ?_
      | refine LeO.bind ?_ (fun _ => ?_)
def hayloftref10_SameAll.T6 : Bool × List (List Nat × List Nat) := (true, [([], []), ([], []), ([0, 1], [0, 1]), ([2], [2]), ([], []), ([], []), ([4, 5], [4, 5]), ([6], [6]), ([3, 7], [3, 7]), ([8], [8])])
def hayloftref10_SameAll.B6 : List Nat := [0, 0, 3, 7, 0, 0, 48, 112, 255, 511]
theorem hayloftref10_SameAll.tab6 : rtab .any (opsOf Try.f21 6) = hayloftref10_SameAll.T6 := by kernel_rfl
theorem hayloftref10_SameAll.bits6 : waitsOk hayloftref10_SameAll.T6.2 hayloftref10_SameAll.B6 = true := by kernel_rfl
set_option maxHeartbeats 8000000 in
set_option maxRecDepth 100000 in
theorem hayloftref10_SameAll.calls (k : Nat) (A0 : Option Addr) (c0 : Nat) (l0 : List (S29)) (A1 : Option Addr) (c1 : Nat) (l1 : List (S29)) (r : Bool) (w : World) (hr0 : Kd.C k29 w A0 l0.length l0) (hc0 : l0.length ≤ c0) (hr1 : Kd.C k29 w A1 l1.length l1) (hc1 : l1.length ≤ c1) (h : hayloftref10_SameAll.f k l0 l1 = some r) :
    Calls Try.prog 21 #[.slice A0 l0.length c0, .slice A1 l1.length c1] w fun e w' => e = .returned (.bool r) ∧ Below w.heap.size w w' := by
  have hu29 := Try.underlying29
  have HR0 := Aside0.mk hr0
  have HC0 := Aside0.mk hc0
  clear hr0 hc0
  have HR1 := Aside0.mk hr1
  have HC1 := Aside0.mk hc1
  clear hr1 hc1
  have HB := Aside0.mk (Below.refl w.heap.size w)
  have H : (if (l0.length : Int) = (l1.length : Int) then (hayloftref10_SameAll.l0 k l0 l1 0) else (some false)) = some r := h
  clear h
  by_cases c3 : (l0.length : Int) = (l1.length : Int)
  · rw [if_pos c3] at H
    have c3b0 : ((l0.length : Int) == (l1.length : Int)) = true := beq_iff_eq.mpr c3
    have c3b1 : ((l0.length : Int) != (l1.length : Int)) = false := bne_eq_false_iff_eq.mpr c3
    have c3b2 : (l0.length == l1.length) = true := by first | simpa using c3 | (simp at c3 ⊢; omega)
    clear c3
    have H' := Aside0.mk H
    clear H
    go_enter Try.func21, Try.ntmps21
    go_wp2
    go_loopg [5] k (fun kq v5 w' => ∃ (x5_1 : Int), v5 = .int .i64 x5_1 ∧ Aside0 (hayloftref10_SameAll.l0 kq l0 l1 x5_1 = some r) ∧ Aside0 (kq ≤ k) ∧ Aside0 (Below w.heap.size w w'))
    case atStart => exact ⟨(0), (by first | rfl | (simp; done) | (simp [*]; done)), H', ⟨Nat.le_refl _⟩, ⟨by repeat (first | (with_reducible first | exact HB.out | apply below_alloc | apply pw_below_drewN | apply below_drew1) | exact HB.out)⟩⟩
    case round =>
      clear H'
      try clear c1
      try clear c2
      try clear p2
      try clear c3
      try clear c3b0
      try clear c3b1
      try clear c3b2
      obtain ⟨x5_1, rfl, HA, HK1, HB⟩ := hrel
      cases gk with
      | zero => exact absurd HA.out (by simp [hayloftref10_SameAll.l0])
      | succ k1 =>
        have H := HA.out
        clear HA
        simp only [hayloftref10_SameAll.l0] at H
        by_cases c4 : x5_1 < (l0.length : Int)
        · rw [if_pos c4] at H
          have c4b0 : decide (x5_1 < (l0.length : Int)) = true := decide_eq_true c4
          clear c4
          by_cases c5 : 0 ≤ x5_1
          · rw [if_pos c5] at H
            have c5b0 : decide (0 ≤ x5_1) = true := decide_eq_true c5
            clear c5
            by_cases c6 : x5_1 < (l1.length : Int)
            · rw [if_pos c6] at H
              have c6b0 : decide (x5_1 < (l1.length : Int)) = true := decide_eq_true c6
              clear c6
              replace H := Option.bind_eq_some_iff.mp H
              obtain ⟨t107, A70, H⟩ := H
              replace H : (if t107 = true then (hayloftref10_SameAll.l0 k1 l0 l1 (wrap64 (x5_1 + 1))) else (some false)) = some r := H
              have A7 := Aside0.mk A70
              clear A70
              by_cases c8 : t107 = true
              · subst c8
                have H1 : (hayloftref10_SameAll.l0 k1 l0 l1 (wrap64 (x5_1 + 1))) = some r := by rw [if_pos rfl] at H; exact H
                clear H
                have H := H1
                clear H1
                have H' := Aside0.mk H
                clear H
                try go_wp2
                have n0_ := Aside0.mk (below_drew1 HB.out)
                clear HB
                have HB := n0_
                clear n0_
                have p105 : 0 ≤ (x5_1 : Int) := of_decide_eq_true (by first | (with_reducible assumption) | assumption)
                have q105 : x5_1 < (l0.length : Int) := of_decide_eq_true (by first | (with_reducible assumption) | assumption)
                obtain ⟨ad105, A105_2, c105_2, e105, hx105_0, hx105_1, hx105_2, hx105_3, hl105_2, hi105_2⟩ := at_T29 HR0.out x5_1 p105 q105
                have hw105_3 := hx105_3
                have hw105_2 := hx105_2
                have hw105_1 := hx105_1
                have hw105_0 := hx105_0
                cases e105
                replace hx105_0 := (HB.out.cell (World.block_lt_of_cell? w _ hx105_0)).trans hx105_0
                replace hx105_1 := (HB.out.cell (World.block_lt_of_cell? w _ hx105_1)).trans hx105_1
                replace hx105_2 := (HB.out.cell (World.block_lt_of_cell? w _ hx105_2)).trans hx105_2
                replace hx105_3 := (HB.out.cell (World.block_lt_of_cell? w _ hx105_3)).trans hx105_3
                have HR105_2 := Aside0.mk hi105_2
                have HC105_2 := Aside0.mk hl105_2
                clear hi105_2 hl105_2
                replace p105 := eq_true p105
                replace q105 := eq_true q105
                have p106 : 0 ≤ (x5_1 : Int) := of_decide_eq_true (by first | (with_reducible assumption) | assumption)
                have q106 : x5_1 < (l1.length : Int) := of_decide_eq_true (by first | (with_reducible assumption) | assumption)
                obtain ⟨ad106, A106_2, c106_2, e106, hx106_0, hx106_1, hx106_2, hx106_3, hl106_2, hi106_2⟩ := at_T29 HR1.out x5_1 p106 q106
                have hw106_3 := hx106_3
                have hw106_2 := hx106_2
                have hw106_1 := hx106_1
                have hw106_0 := hx106_0
                cases e106
                replace hx106_0 := (HB.out.cell (World.block_lt_of_cell? w _ hx106_0)).trans hx106_0
                replace hx106_1 := (HB.out.cell (World.block_lt_of_cell? w _ hx106_1)).trans hx106_1
                replace hx106_2 := (HB.out.cell (World.block_lt_of_cell? w _ hx106_2)).trans hx106_2
                replace hx106_3 := (HB.out.cell (World.block_lt_of_cell? w _ hx106_3)).trans hx106_3
                have HR106_2 := Aside0.mk hi106_2
                have HC106_2 := Aside0.mk hl106_2
                clear hi106_2 hl106_2
                replace p106 := eq_true p106
                replace q106 := eq_true q106
                refine start_ (n := 10) (S := fun w' => w'.cell? (ad105.add ((x5_1).toNat * 4)) = some (.int .u64 ((rd_T29 l0 x5_1).f0.f0)) ∧ w'.cell? ⟨(ad105.add ((x5_1).toNat * 4)).block, (ad105.add ((x5_1).toNat * 4)).off + 1, none⟩ = some (.int .u32 ((rd_T29 l0 x5_1).f0.f1)) ∧ w'.cell? ⟨(ad105.add ((x5_1).toNat * 4)).block, (ad105.add ((x5_1).toNat * 4)).off + 2, none⟩ = some (.slice A105_2 ((rd_T29 l0 x5_1).f1).length c105_2) ∧ w'.cell? ⟨(ad105.add ((x5_1).toNat * 4)).block, (ad105.add ((x5_1).toNat * 4)).off + 3, none⟩ = some (.int .u64 ((rd_T29 l0 x5_1).f2)) ∧ w'.cell? (ad106.add ((x5_1).toNat * 4)) = some (.int .u64 ((rd_T29 l1 x5_1).f0.f0)) ∧ w'.cell? ⟨(ad106.add ((x5_1).toNat * 4)).block, (ad106.add ((x5_1).toNat * 4)).off + 1, none⟩ = some (.int .u32 ((rd_T29 l1 x5_1).f0.f1)) ∧ w'.cell? ⟨(ad106.add ((x5_1).toNat * 4)).block, (ad106.add ((x5_1).toNat * 4)).off + 2, none⟩ = some (.slice A106_2 ((rd_T29 l1 x5_1).f1).length c106_2) ∧ w'.cell? ⟨(ad106.add ((x5_1).toNat * 4)).block, (ad106.add ((x5_1).toNat * 4)).off + 3, none⟩ = some (.int .u64 ((rd_T29 l1 x5_1).f2))) (ds := []) #[false, false, false, false, false, false, false, false, false, false] (by kernel_rfl) rfl rfl ⟨((HB.out.cell (World.block_lt_of_cell? w _ hw105_0)).trans hw105_0), ((HB.out.cell (World.block_lt_of_cell? w _ hw105_1)).trans hw105_1), ((HB.out.cell (World.block_lt_of_cell? w _ hw105_2)).trans hw105_2), ((HB.out.cell (World.block_lt_of_cell? w _ hw105_3)).trans hw105_3), ((HB.out.cell (World.block_lt_of_cell? w _ hw106_0)).trans hw106_0), ((HB.out.cell (World.block_lt_of_cell? w _ hw106_1)).trans hw106_1), ((HB.out.cell (World.block_lt_of_cell? w _ hw106_2)).trans hw106_2), ((HB.out.cell (World.block_lt_of_cell? w _ hw106_3)).trans hw106_3)⟩ (fun hHeld => ?_); refine with_tabW hayloftref10_SameAll.tab6 hayloftref10_SameAll.bits6 (fun HT_ HW_ => ?_)
                generalize wr.drew = w9 at HB HR105_2 HR106_2 hx105_0 hx105_1 hx105_2 hx105_3 hx106_0 hx106_1 hx106_2 hx106_3 hHeld ⊢
                refine pure_ (i := 0) (N := some 17) (v := ?_) (a' := ?_) #[true, false, false, false, false, false, false, false, false, false] rfl rfl (any_of HT_.out (by kernel_rfl)) (fun _ _ _ h => h) (Or.inl ⟨by rfl, ?_⟩) ?_ ?_
                rotate_left
                · intro w'
                  go_simp
                  with_reducible rfl
                rotate_left
                · simp only [Act.put, List.setIfInBounds_toArray, List.set_cons_zero, List.set_cons_succ, i64_w, i32_w]
                  rfl
                refine pure_ (i := 1) (N := some 18) (v := ?_) (a' := ?_) #[true, true, false, false, false, false, false, false, false, false] rfl rfl (any_of HT_.out (by kernel_rfl)) (fun _ _ _ h => h) (Or.inl ⟨by rfl, ?_⟩) ?_ ?_
                rotate_left
                · intro w'
                  go_simp
                  with_reducible rfl
                rotate_left
                · simp only [Act.put, List.setIfInBounds_toArray, List.set_cons_zero, List.set_cons_succ, i64_w, i32_w]
                  rfl
                refine pure_ (i := 2) (N := some 19) (v := ?_) (a' := ?_) #[true, true, true, false, false, false, false, false, false, false] rfl rfl (any_of HT_.out (by kernel_rfl)) (fun _ _ _ h => h) (Or.inl ⟨by rfl, ?_⟩) ?_ ?_
                rotate_left
                · intro w'
                  go_simp
                  with_reducible rfl
                rotate_left
                · simp only [Act.put, List.setIfInBounds_toArray, List.set_cons_zero, List.set_cons_succ, i64_w, i32_w]
                  rfl
                refine pure_ (i := 4) (N := some 21) (v := ?_) (a' := ?_) #[true, true, true, false, true, false, false, false, false, false] rfl rfl (any_of HT_.out (by kernel_rfl)) (fun _ _ _ h => h) (Or.inl ⟨by rfl, ?_⟩) ?_ ?_
                rotate_left
                · intro w'
                  go_simp
                  with_reducible rfl
                rotate_left
                · simp only [Act.put, List.setIfInBounds_toArray, List.set_cons_zero, List.set_cons_succ, i64_w, i32_w]
                  rfl
                refine pure_ (i := 5) (N := some 22) (v := ?_) (a' := ?_) #[true, true, true, false, true, true, false, false, false, false] rfl rfl (any_of HT_.out (by kernel_rfl)) (fun _ _ _ h => h) (Or.inl ⟨by rfl, ?_⟩) ?_ ?_
                rotate_left
                · intro w'
                  go_simp
                  with_reducible rfl
                rotate_left
                · simp only [Act.put, List.setIfInBounds_toArray, List.set_cons_zero, List.set_cons_succ, i64_w, i32_w]
                  rfl
                refine pure_ (i := 6) (N := some 23) (v := ?_) (a' := ?_) #[true, true, true, false, true, true, true, false, false, false] rfl rfl (any_of HT_.out (by kernel_rfl)) (fun _ _ _ h => h) (Or.inl ⟨by rfl, ?_⟩) ?_ ?_
                rotate_left
                · intro w'
                  go_simp
                  with_reducible rfl
                rotate_left
                · simp only [Act.put, List.setIfInBounds_toArray, List.set_cons_zero, List.set_cons_succ, i64_w, i32_w]
                  rfl
                refine take_ (i := 3) (N := some 20) (v := ?_) (a' := ?_) #[true, true, true, true, true, true, true, false, false, false] rfl rfl (take_ofW HT_.out HW_.out (by kernel_rfl)) (fun _ _ _ h => h) (Or.inl ⟨by rfl, ?_⟩) hHeld ?_ ?_
                rotate_left
                · rintro w' ⟨s0, s1, s2, s3, s4, s5, s6, s7⟩
                  go_simp
                  with_reducible rfl
                rotate_left
                · simp only [Act.put, List.setIfInBounds_toArray, List.set_cons_zero, List.set_cons_succ, i64_w, i32_w]
                  rfl
                refine take_ (i := 7) (N := some 24) (v := ?_) (a' := ?_) #[true, true, true, true, true, true, true, true, false, false] rfl rfl (take_ofW HT_.out HW_.out (by kernel_rfl)) (fun _ _ _ h => h) (Or.inl ⟨by rfl, ?_⟩) hHeld ?_ ?_
                rotate_left
                · rintro w' ⟨s0, s1, s2, s3, s4, s5, s6, s7⟩
                  go_simp
                  with_reducible rfl
                rotate_left
                · simp only [Act.put, List.setIfInBounds_toArray, List.set_cons_zero, List.set_cons_succ, i64_w, i32_w]
                  rfl
                refine one_ (i := 8) (N := some 25) #[true, true, true, true, true, true, true, true, true, false] rfl rfl (one_of HT_.out (by kernel_rfl)) (by decide) (fun K hK => ?_)
                refine goes_ Try.func16 (by kernel_rfl) rfl #[.agg #[.int .u64 ((rd_T29 l0 x5_1).f0.f0), .int .u32 ((rd_T29 l0 x5_1).f0.f1), .slice A105_2 ((rd_T29 l0 x5_1).f1).length c105_2, .int .u64 ((rd_T29 l0 x5_1).f2)], .agg #[.int .u64 ((rd_T29 l1 x5_1).f0.f0), .int .u32 ((rd_T29 l1 x5_1).f0.f1), .slice A106_2 ((rd_T29 l1 x5_1).f1).length c106_2, .int .u64 ((rd_T29 l1 x5_1).f2)]] (by rfl) rfl rfl (by (try simp only [List.map_toArray, List.map_cons, List.map_nil]); first | done | rfl | (simp only [List.length_drop, List.length_take]; rfl)) ?_
                with_reducible refine (hayloftref10_Same.calls k1 ((rd_T29 l0 x5_1).f0.f0) ((rd_T29 l0 x5_1).f0.f1) _ _ ((rd_T29 l0 x5_1).f1) ((rd_T29 l0 x5_1).f2) ((rd_T29 l1 x5_1).f0.f0) ((rd_T29 l1 x5_1).f0.f1) _ _ ((rd_T29 l1 x5_1).f1) ((rd_T29 l1 x5_1).f2) true _ ?side1 ?side2 ?side3 ?side4 A7.out).mono ?_
                (case side1 => repeat (first | exact (Kd.C_below HR105_2.out HB.out) | (with_reducible refine Kd.C_alloc ?_ _) | (with_reducible refine Kd.C_drewN ?_ _) | (with_reducible refine Kd.C_drew ?_)))
                (case side2 => exact HC105_2.out)
                (case side3 => repeat (first | exact (Kd.C_below HR106_2.out HB.out) | (with_reducible refine Kd.C_alloc ?_ _) | (with_reducible refine Kd.C_drewN ?_ _) | (with_reducible refine Kd.C_drew ?_)))
                (case side4 => exact HC106_2.out)
                rintro e w10 ⟨rfl, hb⟩
                refine ⟨_, rfl, ?_⟩
                have n0_ := Aside0.mk (below_step (by repeat (first | (with_reducible first | exact HB.out | apply below_alloc | apply pw_below_drewN | apply below_drew1) | exact HB.out)) hb)
                clear HB
                have HB := n0_
                clear n0_
                (try clear hb)
                (try clear hb2)
                (try clear hk)
                (try clear hi)
                refine hK.out _ _ ⟨((HB.out.cell (World.block_lt_of_cell? w _ hw105_0)).trans hw105_0), ((HB.out.cell (World.block_lt_of_cell? w _ hw105_1)).trans hw105_1), ((HB.out.cell (World.block_lt_of_cell? w _ hw105_2)).trans hw105_2), ((HB.out.cell (World.block_lt_of_cell? w _ hw105_3)).trans hw105_3), ((HB.out.cell (World.block_lt_of_cell? w _ hw106_0)).trans hw106_0), ((HB.out.cell (World.block_lt_of_cell? w _ hw106_1)).trans hw106_1), ((HB.out.cell (World.block_lt_of_cell? w _ hw106_2)).trans hw106_2), ((HB.out.cell (World.block_lt_of_cell? w _ hw106_3)).trans hw106_3)⟩ (fun hHeld => ?_)
                clear hK K
                refine norm_ (a' := ?_) ?_ ?_
                rotate_left
                · show Act.put _ (some 25) _ = _
                  simp only [Act.put, List.setIfInBounds_toArray, List.set_cons_zero, List.set_cons_succ, i64_w, i32_w]
                  rfl
                refine pure_ (i := 9) (N := some 26) (v := ?_) (a' := ?_) #[true, true, true, true, true, true, true, true, true, true] rfl rfl (any_of HT_.out (by kernel_rfl)) (fun _ _ _ h => h) (Or.inl ⟨by rfl, ?_⟩) ?_ ?_
                rotate_left
                · intro w'
                  go_simp
                  with_reducible rfl
                rotate_left
                · simp only [Act.put, List.setIfInBounds_toArray, List.set_cons_zero, List.set_cons_succ, i64_w, i32_w]
                  rfl
                refine done_ (done_of HT_.out (by kernel_rfl)) ?_
                try go_wp2
                go_roundg k1
                case measure => have := HK1.out; omega
                case rel => exact ⟨(wrap64 (x5_1 + 1)), (by first | rfl | (simp; done) | (simp [*]; done)), H', ⟨by have := HK1.out; omega⟩, ⟨by repeat (first | (with_reducible first | exact HB.out | apply below_alloc | apply pw_below_drewN | apply below_drew1) | exact HB.out)⟩⟩
              · replace c8 := Bool.eq_false_iff.mpr c8
                subst c8
                have H1 : (some false) = some r := by rw [if_neg (show ¬ (false = true) by decide)] at H; exact H
                clear H
                have H := H1
                clear H1
                obtain rfl := Option.some.inj H
                try go_wp2
                have n0_ := Aside0.mk (below_drew1 HB.out)
                clear HB
                have HB := n0_
                clear n0_
                have p105 : 0 ≤ (x5_1 : Int) := of_decide_eq_true (by first | (with_reducible assumption) | assumption)
                have q105 : x5_1 < (l0.length : Int) := of_decide_eq_true (by first | (with_reducible assumption) | assumption)
                obtain ⟨ad105, A105_2, c105_2, e105, hx105_0, hx105_1, hx105_2, hx105_3, hl105_2, hi105_2⟩ := at_T29 HR0.out x5_1 p105 q105
                have hw105_3 := hx105_3
                have hw105_2 := hx105_2
                have hw105_1 := hx105_1
                have hw105_0 := hx105_0
                cases e105
                replace hx105_0 := (HB.out.cell (World.block_lt_of_cell? w _ hx105_0)).trans hx105_0
                replace hx105_1 := (HB.out.cell (World.block_lt_of_cell? w _ hx105_1)).trans hx105_1
                replace hx105_2 := (HB.out.cell (World.block_lt_of_cell? w _ hx105_2)).trans hx105_2
                replace hx105_3 := (HB.out.cell (World.block_lt_of_cell? w _ hx105_3)).trans hx105_3
                have HR105_2 := Aside0.mk hi105_2
                have HC105_2 := Aside0.mk hl105_2
                clear hi105_2 hl105_2
                replace p105 := eq_true p105
                replace q105 := eq_true q105
                have p106 : 0 ≤ (x5_1 : Int) := of_decide_eq_true (by first | (with_reducible assumption) | assumption)
                have q106 : x5_1 < (l1.length : Int) := of_decide_eq_true (by first | (with_reducible assumption) | assumption)
                obtain ⟨ad106, A106_2, c106_2, e106, hx106_0, hx106_1, hx106_2, hx106_3, hl106_2, hi106_2⟩ := at_T29 HR1.out x5_1 p106 q106
                have hw106_3 := hx106_3
                have hw106_2 := hx106_2
                have hw106_1 := hx106_1
                have hw106_0 := hx106_0
                cases e106
                replace hx106_0 := (HB.out.cell (World.block_lt_of_cell? w _ hx106_0)).trans hx106_0
                replace hx106_1 := (HB.out.cell (World.block_lt_of_cell? w _ hx106_1)).trans hx106_1
                replace hx106_2 := (HB.out.cell (World.block_lt_of_cell? w _ hx106_2)).trans hx106_2
                replace hx106_3 := (HB.out.cell (World.block_lt_of_cell? w _ hx106_3)).trans hx106_3
                have HR106_2 := Aside0.mk hi106_2
                have HC106_2 := Aside0.mk hl106_2
                clear hi106_2 hl106_2
                replace p106 := eq_true p106
                replace q106 := eq_true q106
                refine start_ (n := 10) (S := fun w' => w'.cell? (ad105.add ((x5_1).toNat * 4)) = some (.int .u64 ((rd_T29 l0 x5_1).f0.f0)) ∧ w'.cell? ⟨(ad105.add ((x5_1).toNat * 4)).block, (ad105.add ((x5_1).toNat * 4)).off + 1, none⟩ = some (.int .u32 ((rd_T29 l0 x5_1).f0.f1)) ∧ w'.cell? ⟨(ad105.add ((x5_1).toNat * 4)).block, (ad105.add ((x5_1).toNat * 4)).off + 2, none⟩ = some (.slice A105_2 ((rd_T29 l0 x5_1).f1).length c105_2) ∧ w'.cell? ⟨(ad105.add ((x5_1).toNat * 4)).block, (ad105.add ((x5_1).toNat * 4)).off + 3, none⟩ = some (.int .u64 ((rd_T29 l0 x5_1).f2)) ∧ w'.cell? (ad106.add ((x5_1).toNat * 4)) = some (.int .u64 ((rd_T29 l1 x5_1).f0.f0)) ∧ w'.cell? ⟨(ad106.add ((x5_1).toNat * 4)).block, (ad106.add ((x5_1).toNat * 4)).off + 1, none⟩ = some (.int .u32 ((rd_T29 l1 x5_1).f0.f1)) ∧ w'.cell? ⟨(ad106.add ((x5_1).toNat * 4)).block, (ad106.add ((x5_1).toNat * 4)).off + 2, none⟩ = some (.slice A106_2 ((rd_T29 l1 x5_1).f1).length c106_2) ∧ w'.cell? ⟨(ad106.add ((x5_1).toNat * 4)).block, (ad106.add ((x5_1).toNat * 4)).off + 3, none⟩ = some (.int .u64 ((rd_T29 l1 x5_1).f2))) (ds := []) #[false, false, false, false, false, false, false, false, false, false] (by kernel_rfl) rfl rfl ⟨((HB.out.cell (World.block_lt_of_cell? w _ hw105_0)).trans hw105_0), ((HB.out.cell (World.block_lt_of_cell? w _ hw105_1)).trans hw105_1), ((HB.out.cell (World.block_lt_of_cell? w _ hw105_2)).trans hw105_2), ((HB.out.cell (World.block_lt_of_cell? w _ hw105_3)).trans hw105_3), ((HB.out.cell (World.block_lt_of_cell? w _ hw106_0)).trans hw106_0), ((HB.out.cell (World.block_lt_of_cell? w _ hw106_1)).trans hw106_1), ((HB.out.cell (World.block_lt_of_cell? w _ hw106_2)).trans hw106_2), ((HB.out.cell (World.block_lt_of_cell? w _ hw106_3)).trans hw106_3)⟩ (fun hHeld => ?_); refine with_tabW hayloftref10_SameAll.tab6 hayloftref10_SameAll.bits6 (fun HT_ HW_ => ?_)
                generalize wr.drew = w11 at HB HR105_2 HR106_2 hx105_0 hx105_1 hx105_2 hx105_3 hx106_0 hx106_1 hx106_2 hx106_3 hHeld ⊢
                refine pure_ (i := 0) (N := some 17) (v := ?_) (a' := ?_) #[true, false, false, false, false, false, false, false, false, false] rfl rfl (any_of HT_.out (by kernel_rfl)) (fun _ _ _ h => h) (Or.inl ⟨by rfl, ?_⟩) ?_ ?_
                rotate_left
                · intro w'
                  go_simp
                  with_reducible rfl
                rotate_left
                · simp only [Act.put, List.setIfInBounds_toArray, List.set_cons_zero, List.set_cons_succ, i64_w, i32_w]
                  rfl
                refine pure_ (i := 1) (N := some 18) (v := ?_) (a' := ?_) #[true, true, false, false, false, false, false, false, false, false] rfl rfl (any_of HT_.out (by kernel_rfl)) (fun _ _ _ h => h) (Or.inl ⟨by rfl, ?_⟩) ?_ ?_
                rotate_left
                · intro w'
                  go_simp
                  with_reducible rfl
                rotate_left
                · simp only [Act.put, List.setIfInBounds_toArray, List.set_cons_zero, List.set_cons_succ, i64_w, i32_w]
                  rfl
                refine pure_ (i := 2) (N := some 19) (v := ?_) (a' := ?_) #[true, true, true, false, false, false, false, false, false, false] rfl rfl (any_of HT_.out (by kernel_rfl)) (fun _ _ _ h => h) (Or.inl ⟨by rfl, ?_⟩) ?_ ?_
                rotate_left
                · intro w'
                  go_simp
                  with_reducible rfl
                rotate_left
                · simp only [Act.put, List.setIfInBounds_toArray, List.set_cons_zero, List.set_cons_succ, i64_w, i32_w]
                  rfl
                refine pure_ (i := 4) (N := some 21) (v := ?_) (a' := ?_) #[true, true, true, false, true, false, false, false, false, false] rfl rfl (any_of HT_.out (by kernel_rfl)) (fun _ _ _ h => h) (Or.inl ⟨by rfl, ?_⟩) ?_ ?_
                rotate_left
                · intro w'
                  go_simp
                  with_reducible rfl
                rotate_left
                · simp only [Act.put, List.setIfInBounds_toArray, List.set_cons_zero, List.set_cons_succ, i64_w, i32_w]
                  rfl
                refine pure_ (i := 5) (N := some 22) (v := ?_) (a' := ?_) #[true, true, true, false, true, true, false, false, false, false] rfl rfl (any_of HT_.out (by kernel_rfl)) (fun _ _ _ h => h) (Or.inl ⟨by rfl, ?_⟩) ?_ ?_
                rotate_left
                · intro w'
                  go_simp
                  with_reducible rfl
                rotate_left
                · simp only [Act.put, List.setIfInBounds_toArray, List.set_cons_zero, List.set_cons_succ, i64_w, i32_w]
                  rfl
                refine pure_ (i := 6) (N := some 23) (v := ?_) (a' := ?_) #[true, true, true, false, true, true, true, false, false, false] rfl rfl (any_of HT_.out (by kernel_rfl)) (fun _ _ _ h => h) (Or.inl ⟨by rfl, ?_⟩) ?_ ?_
                rotate_left
                · intro w'
                  go_simp
                  with_reducible rfl
                rotate_left
                · simp only [Act.put, List.setIfInBounds_toArray, List.set_cons_zero, List.set_cons_succ, i64_w, i32_w]
                  rfl
                refine take_ (i := 3) (N := some 20) (v := ?_) (a' := ?_) #[true, true, true, true, true, true, true, false, false, false] rfl rfl (take_ofW HT_.out HW_.out (by kernel_rfl)) (fun _ _ _ h => h) (Or.inl ⟨by rfl, ?_⟩) hHeld ?_ ?_
                rotate_left
                · rintro w' ⟨s0, s1, s2, s3, s4, s5, s6, s7⟩
                  go_simp
                  with_reducible rfl
                rotate_left
                · simp only [Act.put, List.setIfInBounds_toArray, List.set_cons_zero, List.set_cons_succ, i64_w, i32_w]
                  rfl
                refine take_ (i := 7) (N := some 24) (v := ?_) (a' := ?_) #[true, true, true, true, true, true, true, true, false, false] rfl rfl (take_ofW HT_.out HW_.out (by kernel_rfl)) (fun _ _ _ h => h) (Or.inl ⟨by rfl, ?_⟩) hHeld ?_ ?_
                rotate_left
                · rintro w' ⟨s0, s1, s2, s3, s4, s5, s6, s7⟩
                  go_simp
                  with_reducible rfl
                rotate_left
                · simp only [Act.put, List.setIfInBounds_toArray, List.set_cons_zero, List.set_cons_succ, i64_w, i32_w]
                  rfl
                refine one_ (i := 8) (N := some 25) #[true, true, true, true, true, true, true, true, true, false] rfl rfl (one_of HT_.out (by kernel_rfl)) (by decide) (fun K hK => ?_)
                refine goes_ Try.func16 (by kernel_rfl) rfl #[.agg #[.int .u64 ((rd_T29 l0 x5_1).f0.f0), .int .u32 ((rd_T29 l0 x5_1).f0.f1), .slice A105_2 ((rd_T29 l0 x5_1).f1).length c105_2, .int .u64 ((rd_T29 l0 x5_1).f2)], .agg #[.int .u64 ((rd_T29 l1 x5_1).f0.f0), .int .u32 ((rd_T29 l1 x5_1).f0.f1), .slice A106_2 ((rd_T29 l1 x5_1).f1).length c106_2, .int .u64 ((rd_T29 l1 x5_1).f2)]] (by rfl) rfl rfl (by (try simp only [List.map_toArray, List.map_cons, List.map_nil]); first | done | rfl | (simp only [List.length_drop, List.length_take]; rfl)) ?_
                with_reducible refine (hayloftref10_Same.calls k1 ((rd_T29 l0 x5_1).f0.f0) ((rd_T29 l0 x5_1).f0.f1) _ _ ((rd_T29 l0 x5_1).f1) ((rd_T29 l0 x5_1).f2) ((rd_T29 l1 x5_1).f0.f0) ((rd_T29 l1 x5_1).f0.f1) _ _ ((rd_T29 l1 x5_1).f1) ((rd_T29 l1 x5_1).f2) false _ ?side1 ?side2 ?side3 ?side4 A7.out).mono ?_
                (case side1 => repeat (first | exact (Kd.C_below HR105_2.out HB.out) | (with_reducible refine Kd.C_alloc ?_ _) | (with_reducible refine Kd.C_drewN ?_ _) | (with_reducible refine Kd.C_drew ?_)))
                (case side2 => exact HC105_2.out)
                (case side3 => repeat (first | exact (Kd.C_below HR106_2.out HB.out) | (with_reducible refine Kd.C_alloc ?_ _) | (with_reducible refine Kd.C_drewN ?_ _) | (with_reducible refine Kd.C_drew ?_)))
                (case side4 => exact HC106_2.out)
                rintro e w12 ⟨rfl, hb⟩
                refine ⟨_, rfl, ?_⟩
                have n0_ := Aside0.mk (below_step (by repeat (first | (with_reducible first | exact HB.out | apply below_alloc | apply pw_below_drewN | apply below_drew1) | exact HB.out)) hb)
                clear HB
                have HB := n0_
                clear n0_
                (try clear hb)
                (try clear hb2)
                (try clear hk)
                (try clear hi)
                refine hK.out _ _ ⟨((HB.out.cell (World.block_lt_of_cell? w _ hw105_0)).trans hw105_0), ((HB.out.cell (World.block_lt_of_cell? w _ hw105_1)).trans hw105_1), ((HB.out.cell (World.block_lt_of_cell? w _ hw105_2)).trans hw105_2), ((HB.out.cell (World.block_lt_of_cell? w _ hw105_3)).trans hw105_3), ((HB.out.cell (World.block_lt_of_cell? w _ hw106_0)).trans hw106_0), ((HB.out.cell (World.block_lt_of_cell? w _ hw106_1)).trans hw106_1), ((HB.out.cell (World.block_lt_of_cell? w _ hw106_2)).trans hw106_2), ((HB.out.cell (World.block_lt_of_cell? w _ hw106_3)).trans hw106_3)⟩ (fun hHeld => ?_)
                clear hK K
                refine norm_ (a' := ?_) ?_ ?_
                rotate_left
                · show Act.put _ (some 25) _ = _
                  simp only [Act.put, List.setIfInBounds_toArray, List.set_cons_zero, List.set_cons_succ, i64_w, i32_w]
                  rfl
                refine pure_ (i := 9) (N := some 26) (v := ?_) (a' := ?_) #[true, true, true, true, true, true, true, true, true, true] rfl rfl (any_of HT_.out (by kernel_rfl)) (fun _ _ _ h => h) (Or.inl ⟨by rfl, ?_⟩) ?_ ?_
                rotate_left
                · intro w'
                  go_simp
                  with_reducible rfl
                rotate_left
                · simp only [Act.put, List.setIfInBounds_toArray, List.set_cons_zero, List.set_cons_succ, i64_w, i32_w]
                  rfl
                refine done_ (done_of HT_.out (by kernel_rfl)) ?_
                try go_wp2
                go_ret
                exact ⟨by first | rfl | (simp [errW_none, errW_some] <;> rfl) | (simp [*, errW_none, errW_some] <;> rfl), by repeat (first | (with_reducible first | exact HB.out | apply below_alloc | apply pw_below_drewN | apply below_drew1) | exact HB.out)⟩
            · rw [if_neg c6] at H
              exact absurd H (by simp)
          · rw [if_neg c5] at H
            exact absurd H (by simp)
        · rw [if_neg c4] at H
          have c4b0 : decide (x5_1 < (l0.length : Int)) = false := decide_eq_false c4
          clear c4
          obtain rfl := Option.some.inj H
          go_wp2
          go_ret
          exact ⟨by first | rfl | (simp [errW_none, errW_some] <;> rfl) | (simp [*, errW_none, errW_some] <;> rfl), by repeat (first | (with_reducible first | exact HB.out | apply below_alloc | apply pw_below_drewN | apply below_drew1) | exact HB.out)⟩
  · rw [if_neg c3] at H
    have c3b0 : ((l0.length : Int) == (l1.length : Int)) = false := beq_eq_false_iff_ne.mpr c3
    have c3b1 : ((l0.length : Int) != (l1.length : Int)) = true := bne_iff_ne.mpr c3
    have c3b2 : (l0.length == l1.length) = false := by first | simpa using c3 | (simp at c3 ⊢; omega)
    obtain rfl := Option.some.inj H
    go_enter Try.func21, Try.ntmps21
    go_wp2
    go_ret
    exact ⟨by first | rfl | (simp [errW_none, errW_some] <;> rfl) | (simp [*, errW_none, errW_some] <;> rfl), by repeat (first | (with_reducible first | exact HB.out | apply below_alloc | apply pw_below_drewN | apply below_drew1) | exact HB.out)⟩

end Go.Proofs.Ytacacigpendneaa.QV
/- What is told of versions by their names: plain facts. -/
namespace Go.Proofs.Ytacacigpendneaa.QV
open Go.RowKit Go.Proofs.YtacacigpendneaaW.PrintWords Go.Proofs.Ytacacigpendneaa.Mp Go.Proofs.Ytacacigpendneaa.SeqW
set_option linter.unusedVariables false
set_option linter.unusedSimpArgs false
set_option maxRecDepth 100000
theorem lift' {α : Type} {f : Nat → Option α} (h : ∀ k, LeO (f k) (f (k + 1))) {k : Nat} {r : α} (hk : f k = some r) {m : Nat} (hm : k ≤ m) : f m = some r := by
  obtain ⟨d, rfl⟩ : ∃ d, m = k + d := ⟨m - k, by omega⟩
  induction d with
  | zero => exact hk
  | succ d ih => exact h (k + d) r (ih (Nat.le_add_right _ _))
theorem firstOf_f0 (l : List Ver) (k : Nm) (x : Ver) (h : firstOf l k = some x) : x.f0 = k := by
  have := List.find?_some h
  simpa using this
theorem firstOf_mem (l : List Ver) (k : Nm) (x : Ver) (h : firstOf l k = some x) : x ∈ l := List.mem_of_find?_eq_some h
/-- The map told: its versions, by rising names. -/
def IsTold (F : Nm → Option Ver) (L : List Ver) : Prop := L.Pairwise (fun a b => cmpNm a.f0 b.f0 < 0) ∧ (∀ x ∈ L, Nok x.f0 ∧ F x.f0 = some x) ∧ ∀ k, Nok k → (F k).isSome = true → ∃ x ∈ L, x.f0 = k
theorem sorted_eq {α : Type} {r : α → α → Prop} (irr : ∀ a b, r a b → ¬ r b a) : ∀ (L M : List α), L.Pairwise r → M.Pairwise r → (∀ x, x ∈ L ↔ x ∈ M) → L = M
  | [], [], _, _, _ => rfl
  | [], b :: M, _, _, h => absurd ((h b).2 (by simp)) (by simp)
  | a :: L, [], _, _, h => absurd ((h a).1 (by simp)) (by simp)
  | a :: L, b :: M, h1, h2, h => by
    obtain ⟨p1, q1⟩ := List.pairwise_cons.1 h1
    obtain ⟨p2, q2⟩ := List.pairwise_cons.1 h2
    have e : a = b := by
      rcases List.mem_cons.1 ((h a).1 (by simp)) with e | ha
      · exact e
      · rcases List.mem_cons.1 ((h b).2 (by simp)) with e | hb
        · exact e.symm
        · exact absurd (p2 a ha) (irr _ _ (p1 b hb))
    subst e
    congr 1
    refine sorted_eq irr L M q1 q2 fun x => ?_
    have hx := h x
    rw [List.mem_cons, List.mem_cons] at hx
    constructor
    · intro hl
      rcases hx.1 (.inr hl) with e | hm
      · subst e; exact absurd (p1 x hl) (irr _ _ (p1 x hl))
      · exact hm
    · intro hm
      rcases hx.2 (.inr hm) with e | hl
      · subst e; exact absurd (p2 x hm) (irr _ _ (p2 x hm))
      · exact hl
theorem rdVer (l : List Ver) (i : Nat) : rd_T29 l (i : Int) = l.getD i z29 := rfl
def hasN (l : List Ver) (k : Nm) : Bool := l.any (fun v => decide (v.f0 = k))
theorem first_iff (l : List Ver) (h : l.Pairwise (fun x y => x.f0 ≠ y.f0)) (k : Nm) (x : Ver) : firstOf l k = some x ↔ x ∈ l ∧ x.f0 = k := by
  constructor
  · intro hx; exact ⟨firstOf_mem l k x hx, firstOf_f0 l k x hx⟩
  · rintro ⟨hx, rfl⟩
    induction l with
    | nil => simp at hx
    | cons y l ih =>
      obtain ⟨h1, h2⟩ := List.pairwise_cons.1 h
      unfold firstOf
      rcases List.mem_cons.1 hx with rfl | hx
      · simp
      · have := h1 x hx
        rw [List.find?_cons_of_neg (by simpa using this)]
        exact ih h2 hx
theorem told_one {F : Nm → Option Ver} {L : List Ver} (h : IsTold F L) : L.Pairwise (fun x y => x.f0 ≠ y.f0) := h.1.imp (fun {a b} h e => by rw [e, cmpNm_neg] at h; omega)
end Go.Proofs.Ytacacigpendneaa.QV
/- Printed by mp.py (this session's) with the kit's print: plain functions with the answers of the Go code, and the proofs of it. -/
namespace Go.Proofs.Ytacacigpendneaa.QV
open Go.RowKit Go.Proofs.YtacacigpendneaaW.PrintWords Go.Proofs.YtacacigpendneaaW.PrintLast Go.Proofs.YtacacigpendneaaW.PrintMore
attribute [local go_sem] max2_int min2_int max_two min_two max_three min_three max_four min_four   -- for this text's walks alone
set_option linter.unusedVariables false
set_option linter.unusedSimpArgs false

attribute [local go_sem high] eqA25
/-! ### hayloftref10_Place: function 19 -/
def hayloftref10_Place.l0 : Nat → List (S29) → Int → Int → Int → Option (Int)
  | 0, _, _, _, _ => none
  | k + 1, x0, x5, x109000, x109001 => if x5 < (x0.length : Int) then (if 0 ≤ x5 then (if (((rd_T29 x0 x5).f0.f0) == x109000 && (((rd_T29 x0 x5).f0.f1) == x109001)) = true then (some x5) else (hayloftref10_Place.l0 k x0 (wrap64 (x5 + 1)) x109000 x109001)) else (none)) else (some (-1))
def hayloftref10_Place.f (k : Nat) (l0 : List (S29)) (a1_0 : Int) (a1_1 : Int) : Option (Int) := hayloftref10_Place.l0 k l0 0 a1_0 a1_1
theorem hayloftref10_Place.mono_l : ∀ k, (∀ y0 y1 y2 y3, LeO (hayloftref10_Place.l0 k y0 y1 y2 y3) (hayloftref10_Place.l0 (k + 1) y0 y1 y2 y3))
  | 0 => fun _ _ _ _ r h => by simp [hayloftref10_Place.l0] at h
  | k + 1 => by
    have ih0 := hayloftref10_Place.mono_l k
    · intro y0 y1 y2 y3
      unfold hayloftref10_Place.l0
      repeat' first
      | (with_reducible exact ih0 _ _ _ _)
      | (with_reducible exact LeO.refl _)
      | (with_reducible exact LeO.none _)
      | (with_reducible refine LeO.ite ?_ ?_)
      | (with_reducible refine LeO.bind ?_ (fun _ => ?_))
      | exact ih0 _ _ _ _
      | exact LeO.none _
      | refine LeO.ite ?_ ?_
      | refine LeO.bind ?_ (fun _ => ?_)
theorem hayloftref10_Place.mono : ∀ a0 a1 a2 k, LeO (hayloftref10_Place.f k a0 a1 a2) (hayloftref10_Place.f (k + 1) a0 a1 a2) := by
  intro a0 a1 a2 k
  have ih0 := hayloftref10_Place.mono_l k
  unfold hayloftref10_Place.f
  repeat' first
      | (with_reducible exact ih0 _ _ _ _)
      | (with_reducible exact LeO.refl _)
      | (with_reducible exact LeO.none _)
      | (with_reducible refine LeO.ite ?_ ?_)
      | (with_reducible refine LeO.bind ?_ (fun _ => ?_))
      | exact ih0 _ _ _ _
      | exact LeO.none _
      | refine LeO.ite ?_ ?_
      | refine LeO.bind ?_ (fun _ => ?_)
set_option maxHeartbeats 8000000 in
set_option maxRecDepth 100000 in
theorem hayloftref10_Place.calls (k : Nat) (A0 : Option Addr) (c0 : Nat) (l0 : List (S29)) (a1_0 : Int) (a1_1 : Int) (r : Int) (w : World) (hr0 : Kd.C k29 w A0 l0.length l0) (hc0 : l0.length ≤ c0) (h : hayloftref10_Place.f k l0 a1_0 a1_1 = some r) :
    Calls Try.prog 19 #[.slice A0 l0.length c0, .agg #[.int .u64 a1_0, .int .u32 a1_1]] w fun e w' => e = .returned (.int .i64 r) ∧ Below w.heap.size w w' := by
  have hu25 := Try.underlying25
  have HR0 := Aside0.mk hr0
  have HC0 := Aside0.mk hc0
  clear hr0 hc0
  have HB := Aside0.mk (Below.refl w.heap.size w)
  have H : (hayloftref10_Place.l0 k l0 0 a1_0 a1_1) = some r := h
  clear h
  have H' := Aside0.mk H
  clear H
  go_enter Try.func19, Try.ntmps19
  go_wp2_with (first | ((with_reducible refine gate_dst (N := 3) rfl ?_); refine box_event ?hg (N := 3) ?hd (cs := #[.int .u64 a1_0, .int .u32 a1_1]) (t := 25) ?hr ?_; (case hd => rfl); (case hg => rfl); (case hr => first | (go_simp; done) | (go_simp; rfl)); intro gb108 hg w3 hbox hb; have n0_ := Aside0.mk (below_step (by repeat (first | (with_reducible first | exact HB.out | apply below_alloc | apply pw_below_drewN | apply below_drew1) | exact HB.out)) hb); have n1_ := Aside0.mk (hbox); have n2_ := Aside0.mk ((by rw [hg]; exact (below_size (by repeat (first | (with_reducible first | exact HB.out | apply below_alloc | apply pw_below_drewN | apply below_drew1) | exact HB.out))) : w.heap.size ≤ gb108)); have n3_ := Aside0.mk ((by rw [hg]; exact (below_size (by repeat (first | (with_reducible first | exact HB.out | apply below_alloc | apply pw_below_drewN | apply below_drew1) | exact HB.out))) : w.heap.size ≤ gb108)); clear HB; have HB := n0_; have BK108 := n1_; have GW108 := n2_; have GE108 := n3_; clear n0_ n1_ n2_ n3_; clear hb hbox hg))
  repeat (go_quiet (first | ((with_reducible refine gate_dst (N := 3) rfl ?_); refine box_event ?hg (N := 3) ?hd (cs := #[.int .u64 a1_0, .int .u32 a1_1]) (t := 25) ?hr ?_; (case hd => rfl); (case hg => rfl); (case hr => first | (go_simp; done) | (go_simp; rfl)); intro gb108 hg w3 hbox hb; have n0_ := Aside0.mk (below_step (by repeat (first | (with_reducible first | exact HB.out | apply below_alloc | apply pw_below_drewN | apply below_drew1) | exact HB.out)) hb); have n1_ := Aside0.mk (hbox); have n2_ := Aside0.mk ((by rw [hg]; exact (below_size (by repeat (first | (with_reducible first | exact HB.out | apply below_alloc | apply pw_below_drewN | apply below_drew1) | exact HB.out))) : w.heap.size ≤ gb108)); have n3_ := Aside0.mk ((by rw [hg]; exact (below_size (by repeat (first | (with_reducible first | exact HB.out | apply below_alloc | apply pw_below_drewN | apply below_drew1) | exact HB.out))) : w.heap.size ≤ gb108)); clear HB; have HB := n0_; have BK108 := n1_; have GW108 := n2_; have GE108 := n3_; clear n0_ n1_ n2_ n3_; clear hb hbox hg)); try go_wp2_with (first | ((with_reducible refine gate_dst (N := 3) rfl ?_); refine box_event ?hg (N := 3) ?hd (cs := #[.int .u64 a1_0, .int .u32 a1_1]) (t := 25) ?hr ?_; (case hd => rfl); (case hg => rfl); (case hr => first | (go_simp; done) | (go_simp; rfl)); intro gb108 hg w3 hbox hb; have n0_ := Aside0.mk (below_step (by repeat (first | (with_reducible first | exact HB.out | apply below_alloc | apply pw_below_drewN | apply below_drew1) | exact HB.out)) hb); have n1_ := Aside0.mk (hbox); have n2_ := Aside0.mk ((by rw [hg]; exact (below_size (by repeat (first | (with_reducible first | exact HB.out | apply below_alloc | apply pw_below_drewN | apply below_drew1) | exact HB.out))) : w.heap.size ≤ gb108)); have n3_ := Aside0.mk ((by rw [hg]; exact (below_size (by repeat (first | (with_reducible first | exact HB.out | apply below_alloc | apply pw_below_drewN | apply below_drew1) | exact HB.out))) : w.heap.size ≤ gb108)); clear HB; have HB := n0_; have BK108 := n1_; have GW108 := n2_; have GE108 := n3_; clear n0_ n1_ n2_ n3_; clear hb hbox hg)))
  go_loopg [5] k (fun kq v5 w' => ∃ (x5_1 : Int), v5 = .int .i64 x5_1 ∧ Aside0 (hayloftref10_Place.l0 kq l0 x5_1 a1_0 a1_1 = some r) ∧ Aside0 (kq ≤ k) ∧ Aside0 (w'.heap[gb108]? = some (.cells #[.int .u64 a1_0, .int .u32 a1_1] 25 (0, 0))) ∧ Aside0 (Below w.heap.size w w'))
  case atStart => exact ⟨(0), (by first | rfl | (simp; done) | (simp [*]; done)), H', ⟨Nat.le_refl _⟩, ⟨by (with_reducible repeat (first | refine blk_drewN ?_ _ | refine blk_drew ?_ | refine blk_alloc ?_ _)); exact BK108.out⟩, ⟨by repeat (first | (with_reducible first | exact HB.out | apply below_alloc | apply pw_below_drewN | apply below_drew1 | refine below_set ?_ GE108.out) | exact HB.out)⟩⟩
  case round =>
    clear H'
    try clear c1
    try clear p2
    obtain ⟨x5_1, rfl, HA, HK1, BK108, HB⟩ := hrel
    cases gk with
    | zero => exact absurd HA.out (by simp [hayloftref10_Place.l0])
    | succ k1 =>
      have H := HA.out
      clear HA
      simp only [hayloftref10_Place.l0] at H
      by_cases c4 : x5_1 < (l0.length : Int)
      · rw [if_pos c4] at H
        have c4b0 : decide (x5_1 < (l0.length : Int)) = true := decide_eq_true c4
        clear c4
        by_cases c5 : 0 ≤ x5_1
        · rw [if_pos c5] at H
          have c5b0 : decide (0 ≤ x5_1) = true := decide_eq_true c5
          clear c5
          by_cases c6 : (((rd_T29 l0 x5_1).f0.f0) == a1_0 && (((rd_T29 l0 x5_1).f0.f1) == a1_1)) = true
          · rw [if_pos c6] at H
            have c6b0 : (((rd_T29 l0 x5_1).f0.f0) == a1_0 && (((rd_T29 l0 x5_1).f0.f1) == a1_1)) = true := c6
            (try (have c6b1 : decide (((rd_T29 l0 x5_1).f0.f0) = a1_0 && (((rd_T29 l0 x5_1).f0.f1) == a1_1)) = true := by simpa using c6))
            (try (have c6b2 : (((rd_T29 l0 x5_1).f0.f0) == a1_0 && (((rd_T29 l0 x5_1).f0.f1) == a1_1)) = true := by simpa using c6))
            clear c6
            obtain rfl := Option.some.inj H
            have p109 : 0 ≤ (x5_1 : Int) := of_decide_eq_true (by first | (with_reducible assumption) | assumption)
            have q109 : x5_1 < (l0.length : Int) := of_decide_eq_true (by first | (with_reducible assumption) | assumption)
            obtain ⟨ad109, A109_2, c109_2, e109, hx109_0, hx109_1, hx109_2, hx109_3, hl109_2, hi109_2⟩ := at_T29 HR0.out x5_1 p109 q109
            cases e109
            replace hx109_0 := (HB.out.cell (World.block_lt_of_cell? w _ hx109_0)).trans hx109_0
            replace hx109_1 := (HB.out.cell (World.block_lt_of_cell? w _ hx109_1)).trans hx109_1
            replace hx109_2 := (HB.out.cell (World.block_lt_of_cell? w _ hx109_2)).trans hx109_2
            replace hx109_3 := (HB.out.cell (World.block_lt_of_cell? w _ hx109_3)).trans hx109_3
            have HR109_2 := Aside0.mk hi109_2
            have HC109_2 := Aside0.mk hl109_2
            clear hi109_2 hl109_2
            replace p109 := eq_true p109
            replace q109 := eq_true q109
            have hcz7_0 : wr.cell? ⟨gb108, 0, none⟩ = some (.int .u64 a1_0) := (blk_cell BK108.out 0).trans rfl
            have hcz7_1 : wr.cell? ⟨gb108, 1, none⟩ = some (.int .u32 a1_1) := (blk_cell BK108.out 1).trans rfl
            have hfz7_0 := blk_frozen BK108.out 0
            have hfz7_1 := blk_frozen BK108.out 1
            go_wp2
            repeat (go_quiet (fail); try go_wp2)
            go_ret
            exact ⟨by first | rfl | (simp [errW_none, errW_some] <;> rfl) | (simp [*, errW_none, errW_some] <;> rfl), by repeat (first | (with_reducible first | exact HB.out | apply below_alloc | apply pw_below_drewN | apply below_drew1 | refine below_set ?_ GE108.out) | exact HB.out)⟩
          · rw [if_neg c6] at H
            have c6b0 : (((rd_T29 l0 x5_1).f0.f0) == a1_0 && (((rd_T29 l0 x5_1).f0.f1) == a1_1)) = false := by simpa using c6
            (try (have c6b1 : decide (((rd_T29 l0 x5_1).f0.f0) = a1_0 && (((rd_T29 l0 x5_1).f0.f1) == a1_1)) = false := by simpa using c6))
            (try (have c6b2 : (((rd_T29 l0 x5_1).f0.f0) == a1_0 && (((rd_T29 l0 x5_1).f0.f1) == a1_1)) = false := by simpa using c6))
            (try (have c6b3 : ¬ (((rd_T29 l0 x5_1).f0.f0) = a1_0 && (((rd_T29 l0 x5_1).f0.f1) == a1_1)) := by simpa using c6))
            clear c6
            have H' := Aside0.mk H
            clear H
            have p109 : 0 ≤ (x5_1 : Int) := of_decide_eq_true (by first | (with_reducible assumption) | assumption)
            have q109 : x5_1 < (l0.length : Int) := of_decide_eq_true (by first | (with_reducible assumption) | assumption)
            obtain ⟨ad109, A109_2, c109_2, e109, hx109_0, hx109_1, hx109_2, hx109_3, hl109_2, hi109_2⟩ := at_T29 HR0.out x5_1 p109 q109
            cases e109
            replace hx109_0 := (HB.out.cell (World.block_lt_of_cell? w _ hx109_0)).trans hx109_0
            replace hx109_1 := (HB.out.cell (World.block_lt_of_cell? w _ hx109_1)).trans hx109_1
            replace hx109_2 := (HB.out.cell (World.block_lt_of_cell? w _ hx109_2)).trans hx109_2
            replace hx109_3 := (HB.out.cell (World.block_lt_of_cell? w _ hx109_3)).trans hx109_3
            have HR109_2 := Aside0.mk hi109_2
            have HC109_2 := Aside0.mk hl109_2
            clear hi109_2 hl109_2
            replace p109 := eq_true p109
            replace q109 := eq_true q109
            have hcz8_0 : wr.cell? ⟨gb108, 0, none⟩ = some (.int .u64 a1_0) := (blk_cell BK108.out 0).trans rfl
            have hcz8_1 : wr.cell? ⟨gb108, 1, none⟩ = some (.int .u32 a1_1) := (blk_cell BK108.out 1).trans rfl
            have hfz8_0 := blk_frozen BK108.out 0
            have hfz8_1 := blk_frozen BK108.out 1
            go_wp2
            repeat (go_quiet (fail); try go_wp2)
            go_roundg k1
            case measure => have := HK1.out; omega
            case rel => exact ⟨(wrap64 (x5_1 + 1)), (by first | rfl | (simp; done) | (simp [*]; done)), H', ⟨by have := HK1.out; omega⟩, ⟨by (with_reducible repeat (first | refine blk_drewN ?_ _ | refine blk_drew ?_ | refine blk_alloc ?_ _)); exact BK108.out⟩, ⟨by repeat (first | (with_reducible first | exact HB.out | apply below_alloc | apply pw_below_drewN | apply below_drew1 | refine below_set ?_ GE108.out) | exact HB.out)⟩⟩
        · rw [if_neg c5] at H
          exact absurd H (by simp)
      · rw [if_neg c4] at H
        have c4b0 : decide (x5_1 < (l0.length : Int)) = false := decide_eq_false c4
        clear c4
        obtain rfl := Option.some.inj H
        go_wp2
        repeat (go_quiet (fail); try go_wp2)
        go_ret
        exact ⟨by first | rfl | (simp [errW_none, errW_some] <;> rfl) | (simp [*, errW_none, errW_some] <;> rfl), by repeat (first | (with_reducible first | exact HB.out | apply below_alloc | apply pw_below_drewN | apply below_drew1 | refine below_set ?_ GE108.out) | exact HB.out)⟩

/-! ### hayloftref10_Less: function 13 -/
def hayloftref10_Less.f (a0_0 : Int) (a0_1 : Int) (a1_0 : Int) (a1_1 : Int) : Option (Bool) := if a0_0 = a1_0 then (some (decide (a0_1 < a1_1))) else (some (decide (a0_0 < a1_0)))
set_option maxHeartbeats 8000000 in
set_option maxRecDepth 100000 in
theorem hayloftref10_Less.calls (a0_0 : Int) (a0_1 : Int) (a1_0 : Int) (a1_1 : Int) (r : Bool) (w : World) (h : hayloftref10_Less.f a0_0 a0_1 a1_0 a1_1 = some r) :
    Calls Try.prog 13 #[.agg #[.int .u64 a0_0, .int .u32 a0_1], .agg #[.int .u64 a1_0, .int .u32 a1_1]] w fun e w' => e = .returned (.bool r) ∧ Below w.heap.size w w' := by
  have hu25 := Try.underlying25
  have HB := Aside0.mk (Below.refl w.heap.size w)
  have H : (if a0_0 = a1_0 then (some (decide (a0_1 < a1_1))) else (some (decide (a0_0 < a1_0)))) = some r := h
  clear h
  by_cases c3 : a0_0 = a1_0
  · rw [if_pos c3] at H
    have c3b0 : (a0_0 == a1_0) = true := beq_iff_eq.mpr c3
    have c3b1 : (a0_0 != a1_0) = false := bne_eq_false_iff_eq.mpr c3
    clear c3
    obtain rfl := Option.some.inj H
    go_enter Try.func13, Try.ntmps13
    go_wp2_with (first | ((with_reducible refine gate_dst (N := 2) rfl ?_); refine box_event ?hg (N := 2) ?hd (cs := #[.int .u64 a0_0, .int .u32 a0_1]) (t := 25) ?hr ?_; (case hd => rfl); (case hg => rfl); (case hr => first | (go_simp; done) | (go_simp; rfl)); intro gb110 hg w4 hbox hb; have n0_ := Aside0.mk (below_step (by repeat (first | (with_reducible first | exact HB.out | apply below_alloc | apply pw_below_drewN | apply below_drew1) | exact HB.out)) hb); have n1_ := Aside0.mk (hbox); have n2_ := Aside0.mk ((by rw [hg]; exact (below_size (by repeat (first | (with_reducible first | exact HB.out | apply below_alloc | apply pw_below_drewN | apply below_drew1) | exact HB.out))) : w.heap.size ≤ gb110)); have n3_ := Aside0.mk ((by rw [hg]; exact (below_size (by repeat (first | (with_reducible first | exact HB.out | apply below_alloc | apply pw_below_drewN | apply below_drew1) | exact HB.out))) : w.heap.size ≤ gb110)); clear HB; have HB := n0_; have BK110 := n1_; have GW110 := n2_; have GE110 := n3_; clear n0_ n1_ n2_ n3_; clear hb hbox hg) | ((with_reducible refine gate_dst (N := 3) rfl ?_); refine box_event ?hg (N := 3) ?hd (cs := #[.int .u64 a1_0, .int .u32 a1_1]) (t := 25) ?hr ?_; (case hd => rfl); (case hg => rfl); (case hr => first | (go_simp; done) | (go_simp; rfl)); intro gb111 hg w5 hbox hb; have n0_ := Aside0.mk (blk_below (g := gb110) (o := .cells #[.int .u64 a0_0, .int .u32 a0_1] 25 (0, 0)) (by (with_reducible repeat (first | refine blk_drewN ?_ _ | refine blk_drew ?_ | refine blk_alloc ?_ _)); exact BK110.out) hb); have n1_ := Aside0.mk (below_step (by repeat (first | (with_reducible first | exact HB.out | apply below_alloc | apply pw_below_drewN | apply below_drew1 | refine below_set ?_ GE110.out) | exact HB.out)) hb); have n2_ := Aside0.mk (hbox); have n3_ := Aside0.mk ((by rw [hg]; exact (below_size (by repeat (first | (with_reducible first | exact HB.out | apply below_alloc | apply pw_below_drewN | apply below_drew1 | refine below_set ?_ GE110.out) | exact HB.out))) : w.heap.size ≤ gb111)); have n4_ := Aside0.mk ((by rw [hg]; exact (below_size (by repeat (first | (with_reducible first | exact HB.out | apply below_alloc | apply pw_below_drewN | apply below_drew1 | refine below_set ?_ GE110.out) | exact HB.out))) : w.heap.size ≤ gb111)); have n5_ := Aside0.mk ((by rw [hg]; exact Nat.ne_of_lt (blk_lt (g := gb110) (o := .cells #[.int .u64 a0_0, .int .u32 a0_1] 25 (0, 0)) (by (with_reducible repeat (first | refine blk_drewN ?_ _ | refine blk_drew ?_ | refine blk_alloc ?_ _)); exact BK110.out)) : gb110 ≠ gb111)); have n6_ := Aside0.mk ((by rw [hg]; exact Nat.ne_of_gt (blk_lt (g := gb110) (o := .cells #[.int .u64 a0_0, .int .u32 a0_1] 25 (0, 0)) (by (with_reducible repeat (first | refine blk_drewN ?_ _ | refine blk_drew ?_ | refine blk_alloc ?_ _)); exact BK110.out)) : gb111 ≠ gb110)); clear BK110; clear HB; have BK110 := n0_; have HB := n1_; have BK111 := n2_; have GW111 := n3_; have GE111 := n4_; have NB110_111 := n5_; have NB111_110 := n6_; clear n0_ n1_ n2_ n3_ n4_ n5_ n6_; clear hb hbox hg; have hnb6 := NB110_111.out; have hnc6 := NB111_110.out; have hcz7_0 : w5.cell? ⟨gb110, 0, none⟩ = some (.int .u64 a0_0) := (blk_cell BK110.out 0).trans rfl; have hcz7_1 : w5.cell? ⟨gb110, 1, none⟩ = some (.int .u32 a0_1) := (blk_cell BK110.out 1).trans rfl; have hfz7_0 := blk_frozen BK110.out 0; have hfz7_1 := blk_frozen BK110.out 1; have hcz8_0 : w5.cell? ⟨gb111, 0, none⟩ = some (.int .u64 a1_0) := (blk_cell BK111.out 0).trans rfl; have hcz8_1 : w5.cell? ⟨gb111, 1, none⟩ = some (.int .u32 a1_1) := (blk_cell BK111.out 1).trans rfl; have hfz8_0 := blk_frozen BK111.out 0; have hfz8_1 := blk_frozen BK111.out 1))
    go_ret
    exact ⟨by first | rfl | (simp [errW_none, errW_some] <;> rfl) | (simp [*, errW_none, errW_some] <;> rfl), by repeat (first | (with_reducible first | exact HB.out | apply below_alloc | apply pw_below_drewN | apply below_drew1 | refine below_set ?_ GE110.out | refine below_set ?_ GE111.out) | exact HB.out)⟩
  · rw [if_neg c3] at H
    have c3b0 : (a0_0 == a1_0) = false := beq_eq_false_iff_ne.mpr c3
    have c3b1 : (a0_0 != a1_0) = true := bne_iff_ne.mpr c3
    obtain rfl := Option.some.inj H
    go_enter Try.func13, Try.ntmps13
    go_wp2_with (first | ((with_reducible refine gate_dst (N := 2) rfl ?_); refine box_event ?hg (N := 2) ?hd (cs := #[.int .u64 a0_0, .int .u32 a0_1]) (t := 25) ?hr ?_; (case hd => rfl); (case hg => rfl); (case hr => first | (go_simp; done) | (go_simp; rfl)); intro gb110 hg w9 hbox hb; have n0_ := Aside0.mk (below_step (by repeat (first | (with_reducible first | exact HB.out | apply below_alloc | apply pw_below_drewN | apply below_drew1) | exact HB.out)) hb); have n1_ := Aside0.mk (hbox); have n2_ := Aside0.mk ((by rw [hg]; exact (below_size (by repeat (first | (with_reducible first | exact HB.out | apply below_alloc | apply pw_below_drewN | apply below_drew1) | exact HB.out))) : w.heap.size ≤ gb110)); have n3_ := Aside0.mk ((by rw [hg]; exact (below_size (by repeat (first | (with_reducible first | exact HB.out | apply below_alloc | apply pw_below_drewN | apply below_drew1) | exact HB.out))) : w.heap.size ≤ gb110)); clear HB; have HB := n0_; have BK110 := n1_; have GW110 := n2_; have GE110 := n3_; clear n0_ n1_ n2_ n3_; clear hb hbox hg) | ((with_reducible refine gate_dst (N := 3) rfl ?_); refine box_event ?hg (N := 3) ?hd (cs := #[.int .u64 a1_0, .int .u32 a1_1]) (t := 25) ?hr ?_; (case hd => rfl); (case hg => rfl); (case hr => first | (go_simp; done) | (go_simp; rfl)); intro gb111 hg w10 hbox hb; have n0_ := Aside0.mk (blk_below (g := gb110) (o := .cells #[.int .u64 a0_0, .int .u32 a0_1] 25 (0, 0)) (by (with_reducible repeat (first | refine blk_drewN ?_ _ | refine blk_drew ?_ | refine blk_alloc ?_ _)); exact BK110.out) hb); have n1_ := Aside0.mk (below_step (by repeat (first | (with_reducible first | exact HB.out | apply below_alloc | apply pw_below_drewN | apply below_drew1 | refine below_set ?_ GE110.out) | exact HB.out)) hb); have n2_ := Aside0.mk (hbox); have n3_ := Aside0.mk ((by rw [hg]; exact (below_size (by repeat (first | (with_reducible first | exact HB.out | apply below_alloc | apply pw_below_drewN | apply below_drew1 | refine below_set ?_ GE110.out) | exact HB.out))) : w.heap.size ≤ gb111)); have n4_ := Aside0.mk ((by rw [hg]; exact (below_size (by repeat (first | (with_reducible first | exact HB.out | apply below_alloc | apply pw_below_drewN | apply below_drew1 | refine below_set ?_ GE110.out) | exact HB.out))) : w.heap.size ≤ gb111)); have n5_ := Aside0.mk ((by rw [hg]; exact Nat.ne_of_lt (blk_lt (g := gb110) (o := .cells #[.int .u64 a0_0, .int .u32 a0_1] 25 (0, 0)) (by (with_reducible repeat (first | refine blk_drewN ?_ _ | refine blk_drew ?_ | refine blk_alloc ?_ _)); exact BK110.out)) : gb110 ≠ gb111)); have n6_ := Aside0.mk ((by rw [hg]; exact Nat.ne_of_gt (blk_lt (g := gb110) (o := .cells #[.int .u64 a0_0, .int .u32 a0_1] 25 (0, 0)) (by (with_reducible repeat (first | refine blk_drewN ?_ _ | refine blk_drew ?_ | refine blk_alloc ?_ _)); exact BK110.out)) : gb111 ≠ gb110)); clear BK110; clear HB; have BK110 := n0_; have HB := n1_; have BK111 := n2_; have GW111 := n3_; have GE111 := n4_; have NB110_111 := n5_; have NB111_110 := n6_; clear n0_ n1_ n2_ n3_ n4_ n5_ n6_; clear hb hbox hg; have hnb11 := NB110_111.out; have hnc11 := NB111_110.out; have hcz12_0 : w10.cell? ⟨gb110, 0, none⟩ = some (.int .u64 a0_0) := (blk_cell BK110.out 0).trans rfl; have hcz12_1 : w10.cell? ⟨gb110, 1, none⟩ = some (.int .u32 a0_1) := (blk_cell BK110.out 1).trans rfl; have hfz12_0 := blk_frozen BK110.out 0; have hfz12_1 := blk_frozen BK110.out 1; have hcz13_0 : w10.cell? ⟨gb111, 0, none⟩ = some (.int .u64 a1_0) := (blk_cell BK111.out 0).trans rfl; have hcz13_1 : w10.cell? ⟨gb111, 1, none⟩ = some (.int .u32 a1_1) := (blk_cell BK111.out 1).trans rfl; have hfz13_0 := blk_frozen BK111.out 0; have hfz13_1 := blk_frozen BK111.out 1))
    go_ret
    exact ⟨by first | rfl | (simp [errW_none, errW_some] <;> rfl) | (simp [*, errW_none, errW_some] <;> rfl), by repeat (first | (with_reducible first | exact HB.out | apply below_alloc | apply pw_below_drewN | apply below_drew1 | refine below_set ?_ GE110.out | refine below_set ?_ GE111.out) | exact HB.out)⟩

end Go.Proofs.Ytacacigpendneaa.QV
