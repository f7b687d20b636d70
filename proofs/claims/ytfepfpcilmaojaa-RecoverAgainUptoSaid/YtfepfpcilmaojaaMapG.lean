/- Maps whose elements are taken as they lie (no memory behind them is looked at): what a block holds, as a function of keys. -/
import Derived.Maps.OwnSet
import Derived.Maps.OwnOps
import Derived.Maps.RangeWalk
import Derived.Maps.Ext
import Derived.DeepKeys4
import Derived.KernelRfl
import Derived.Sort.MapsRangeIn
namespace Go.Proofs.Ytfepfpcilmaojaa.Mp
open Go Go.Maps Go.RowKit
open Go.ChangeMaps (setBlock heap_setBlock_same)
set_option linter.unusedVariables false
set_option linter.unusedSimpArgs false

/-- A key type whose values are told by α. -/
structure KeyTy (P : Program) (t : TypeId) (α : Type) where
  val : α → Value
  ok : α → Prop
  law : Keyed P t
  of : ∀ a, ok a → ∃ l, keyOf P t (val a) = some l
  inv : ∀ v l, keyOf P t v = some l → ∃ a, ok a ∧ v = val a
  inj : ∀ a b, val a = val b → a = b

/-- A list without repeats that lies in another one is no longer. -/
theorem nodup_le {β : Type} : ∀ {l L : List β}, l.Nodup → (∀ x ∈ l, x ∈ L) → l.length ≤ L.length
  | [], _, _, _ => by simp
  | x :: l, L, hn, hs => by
    classical
    obtain ⟨h1, h2⟩ := List.nodup_cons.1 hn
    have hx : x ∈ L := hs x (by simp)
    have h := nodup_le (L := L.erase x) h2 (fun y hy => by
      have hne : y ≠ x := fun e => h1 (by rw [← e]; exact hy)
      exact (List.mem_erase_of_ne hne).2 (hs y (by simp [hy])))
    rw [List.length_erase_of_mem hx] at h
    have := List.length_pos_of_mem hx
    simp only [List.length_cons]
    omega

section
variable {P : Program} {t : TypeId} {α : Type} (κ : KeyTy P t α)

noncomputable def KeyTy.lit (a : α) : Lit := (keyOf P t (κ.val a)).getD (.bool false)
theorem KeyTy.is {a : α} (h : κ.ok a) : keyOf P t (κ.val a) = some (κ.lit a) := by
  obtain ⟨l, hl⟩ := κ.of a h
  simp [KeyTy.lit, hl]
theorem KeyTy.isKey {a : α} (h : κ.ok a) : WideAt.IsKeyLit (κ.lit a) := κ.law.key (κ.is h)
theorem KeyTy.lit_inj {a b : α} (ha : κ.ok a) (hb : κ.ok b) (h : κ.lit a = κ.lit b) : a = b :=
  κ.inj _ _ (κ.law.inj (κ.is ha) (by rw [h]; exact κ.is hb))
theorem KeyTy.same {a b : α} (ha : κ.ok a) (hb : κ.ok b) [DecidableEq α] : (κ.lit a).sameKey (κ.lit b) = decide (a = b) := by
  by_cases h : a = b
  · subst h; rw [WideAt.sameKey_self (κ.isKey ha)]; simp
  · rw [sameKey_ne (fun e => h (κ.lit_inj ha hb e))]; simp [h]

/-- An element, as it lies. -/
def raw (v : Value) : Option (DataW Value × List MemPlace) := some (.held v, [])
theorem raw_inv {v : Value} {y : DataW Value × List MemPlace} (h : raw v = some y) : y = (.held v, []) := (Option.some.inj h).symm

/-- What the datum tells at each key. -/
def DIs (D : DataW Value) (f : α → Option Value) : Prop := IsMap D ∧ ∀ a, κ.ok a → ∀ z, D.atKey (κ.lit a) z = (f a).elim z .held
variable {κ}
theorem DIs.at_ {D : DataW Value} {f : α → Option Value} (h : DIs κ D f) {a : α} (ha : κ.ok a) (z : DataW Value) : D.atKey (κ.lit a) z = (f a).elim z .held := h.2 a ha z
theorem DIs.has_ {D : DataW Value} {f : α → Option Value} (h : DIs κ D f) {a : α} (ha : κ.ok a) : Maps.has D (κ.lit a) = (f a).isSome := by
  cases hf : f a with
  | none => exact has_false_of_atKey (fun z => by rw [h.at_ ha, hf]; rfl)
  | some v => exact has_true_of_atKey (y := .held v) (fun z => by rw [h.at_ ha, hf]; rfl)
theorem DIs.empty : DIs κ (.map []) (fun _ => none) := ⟨isMap_empty, fun a _ z => rfl⟩
section
variable [DecidableEq α]
def upd (f : α → Option Value) (a : α) (o : Option Value) : α → Option Value := fun b => if b = a then o else f b
theorem DIs.put_ {D : DataW Value} {f : α → Option Value} (h : DIs κ D f) {a : α} (ha : κ.ok a) (v : Value) : DIs κ (D.put (κ.lit a) (.held v)) (upd f a (some v)) := by
  refine ⟨h.1.put _ _, fun b hb z => ?_⟩
  by_cases e : b = a
  · subst e
    rw [atKey_put_same h.1 (κ.isKey ha)]; simp [upd]
  · rw [atKey_put_other (fun h' => e (κ.lit_inj hb ha h')), h.at_ hb]; simp [upd, e]
theorem DIs.del_ {D : DataW Value} {f : α → Option Value} (h : DIs κ D f) {a : α} (ha : κ.ok a) : DIs κ (D.del (κ.lit a)) (upd f a none) := by
  refine ⟨h.1.del _, fun b hb z => ?_⟩
  by_cases e : b = a
  · subst e
    rw [atKey_del_same]; simp [upd]
  · rw [atKey_del_other (fun h' => e (κ.lit_inj hb ha h')), h.at_ hb]; simp [upd, e]
end
theorem DIs.congr {D : DataW Value} {f g : α → Option Value} (h : DIs κ D f) (e : ∀ a, κ.ok a → f a = g a) : DIs κ D g := ⟨h.1, fun a ha z => by rw [h.at_ ha, e a ha]⟩
end

section
variable {P : Program} {t : TypeId} {α : Type}

/-- BLOCK b IS A MAP of at most n entries, told by f. -/
def MapIs (κ : KeyTy P t α) (w : World) (b n : Nat) (f : α → Option Value) : Prop := ∃ D, w.ownsMap P t raw b n D ∧ DIs κ D f
variable {κ : KeyTy P t α} {w w' : World} {b n : Nat} {f g : α → Option Value}

theorem MapIs.congr (h : MapIs κ w b n f) (e : ∀ a, κ.ok a → f a = g a) : MapIs κ w b n g := let ⟨D, h1, h2⟩ := h; ⟨D, h1, h2.congr e⟩
theorem MapIs.mono (h : MapIs κ w b n f) {m : Nat} (hm : n ≤ m) : MapIs κ w b m f := let ⟨D, h1, h2⟩ := h; ⟨D, h1.mono hm, h2⟩
theorem MapIs.lt (h : MapIs κ w b n f) : b < w.heap.size := let ⟨_, h1, _⟩ := h; h1.lt
theorem MapIs.made (w : World) : MapIs κ (w.alloc (.map #[] 0)) w.heap.size 0 (fun _ => none) := ⟨_, World.ownsMap_made _ _ _ _, DIs.empty⟩
theorem MapIs.at (h : MapIs κ w b n f) (e : w'.heap[b]? = w.heap[b]?) : MapIs κ w' b n f := by
  obtain ⟨D, ⟨es, clock, hb, hr⟩, h2⟩ := h
  exact ⟨D, ⟨es, clock, e.trans hb, hr⟩, h2⟩
theorem MapIs.below (h : MapIs κ w b n f) (hb : Below w.heap.size w w') : MapIs κ w' b n f := h.at (hb.block b h.lt)
/-- The bound is what is in it. -/
theorem MapIs.bound (h : MapIs κ w b n f) (L : List α) (hL : ∀ a, κ.ok a → f a ≠ none → a ∈ L) : MapIs κ w b L.length f := by
  obtain ⟨D, ⟨es, clock, hb, F, hs, rfl⟩, hD⟩ := h
  refine ⟨_, ⟨es, clock, hb, F, ?_, rfl⟩, hD⟩
  have hap := Maps.fit_apart κ.law F
  -- each entry's key is one of L
  have hk : ∀ x ∈ es.toList, ∃ a, a ∈ L ∧ κ.ok a ∧ (WideElems.rg P t raw x).1 = κ.lit a := by
    intro x hx
    obtain ⟨y, hy⟩ := F.reads x hx
    have hkey := WideElems.rd_key hy
    obtain ⟨a, ha, hv⟩ := κ.inv _ _ hkey
    have hl : y.1 = κ.lit a := by rw [hv, κ.is ha] at hkey; exact (Option.some.inj hkey).symm
    refine ⟨a, hL a ha (fun hn => ?_), ha, by rw [WideElems.rg_of hy, hl]⟩
    have hh := hD.has_ ha
    rw [hn] at hh
    have : Maps.has (DataW.map ((es.toList.map (WideElems.rg P t raw)).foldr DataW.insert [])) (κ.lit a) = true :=
      List.any_eq_true.2 ⟨WideElems.rg P t raw x, mem_sorted.2 (List.mem_map.2 ⟨x, hx, rfl⟩), by rw [WideElems.rg_of hy, hl]; exact WideAt.sameKey_self (κ.isKey ha)⟩
    rw [this] at hh
    cases hh
  have h2 : ((es.toList.map (WideElems.rg P t raw)).map (·.1)).Nodup := by
    rw [List.Nodup, List.pairwise_map]
    exact hap
  have h3 : ∀ l ∈ (es.toList.map (WideElems.rg P t raw)).map (·.1), l ∈ L.map κ.lit := by
    intro l hl
    obtain ⟨p, hp, rfl⟩ := List.mem_map.1 hl
    obtain ⟨x, hx, rfl⟩ := List.mem_map.1 hp
    obtain ⟨a, ha, _, e⟩ := hk x hx
    exact List.mem_map.2 ⟨a, ha, e.symm⟩
  have h4 := nodup_le h2 h3
  simpa using h4

theorem MapIs.look {tm e : TypeId} (h : MapIs κ w b n f) (ht : P.underlying tm = some (.map t e)) {z : Value} (hz : (zeroValue e).run P w = .ok z w) {a : α} (ha : κ.ok a) :
    (Instr.lookup tm (.map (some b)) (κ.val a) true).run P w = .ok (.tuple #[(f a).getD z, .bool (f a).isSome]) w := by
  obtain ⟨D, h1, h2⟩ := h
  obtain ⟨v, ps, hr, hv⟩ := h1.look_ok κ.law ht hz (zd := .held z) (zp := []) rfl (κ.is ha)
  rw [h2.has_ ha] at hr
  have := raw_inv hv
  rw [h2.at_ ha] at this
  cases hf : f a with
  | none => rw [hf] at this hr; cases this; exact hr
  | some u => rw [hf] at this hr; cases this; exact hr
theorem MapIs.look1 {tm e : TypeId} (h : MapIs κ w b n f) (ht : P.underlying tm = some (.map t e)) {z : Value} (hz : (zeroValue e).run P w = .ok z w) {a : α} (ha : κ.ok a) :
    (Instr.lookup tm (.map (some b)) (κ.val a) false).run P w = .ok ((f a).getD z) w := by
  obtain ⟨D, h1, h2⟩ := h
  obtain ⟨v, ps, hr, hv⟩ := h1.lookup κ.law ht hz (zd := .held z) (zp := []) rfl (κ.is ha)
  have := raw_inv hv
  rw [h2.at_ ha] at this
  cases hf : f a with
  | none => rw [hf] at this; cases this; exact hr
  | some u => rw [hf] at this; cases this; exact hr
theorem MapIs.put_ [DecidableEq α] {tm e : TypeId} (h : MapIs κ w b n f) (ht : P.underlying tm = some (.map t e)) (hn : n < maxLen) {a : α} (ha : κ.ok a) (v : Value) :
    ∃ w', (Instr.mapUpdate tm (.map (some b)) (κ.val a) v).run P w = .ok () w' ∧ MapIs κ w' b (n + 1) (upd f a (some v)) ∧ w.mapTurned w' b := by
  obtain ⟨D, h1, h2⟩ := h
  obtain ⟨w', hr, h3, h4⟩ := h1.store κ.law ht hn (κ.is ha) (hv := (rfl : raw v = some (.held v, [])))
  exact ⟨w', hr, ⟨_, h3, h2.put_ ha v⟩, h4⟩

/-- 'range m' under way: which keys are still to come, how many. -/
def RangeIs (κ : KeyTy P t α) (w : World) (b r n : Nat) (f : α → Option Value) (todo : α → Bool) (cnt : Nat) : Prop :=
  ∃ D left, w.ranges P t raw b r n D left cnt ∧ DIs κ D f ∧ ∀ a, κ.ok a → left (κ.lit a) = todo a
variable {r cnt : Nat} {todo : α → Bool}
theorem RangeIs.map (h : RangeIs κ w b r n f todo cnt) : MapIs κ w b n f := let ⟨D, left, h1, h2, _⟩ := h; ⟨D, h1.owns, h2⟩
theorem RangeIs.left_eq (h : RangeIs κ w b r n f todo cnt) : w.rangeLeft b r = cnt := let ⟨D, left, h1, _⟩ := h; h1.left_eq
theorem RangeIs.kept {row : Option Nat} (h : RangeIs κ w b r n f todo cnt) (hg : w.grownBy w' row) (hb' : some b ≠ row) (hr' : some r ≠ row) : RangeIs κ w' b r n f todo cnt := let ⟨D, left, h1, h2⟩ := h; ⟨D, left, h1.kept hg hb' hr', h2⟩
theorem RangeIs.lt (h : RangeIs κ w b r n f todo cnt) : r < w.heap.size := let ⟨D, left, h1, _⟩ := h; h1.lt
theorem RangeIs.ne (h : RangeIs κ w b r n f todo cnt) : r ≠ b := let ⟨D, left, h1, _⟩ := h; h1.ne
theorem RangeIs.at (h : RangeIs κ w b r n f todo cnt) (e1 : w'.heap[b]? = w.heap[b]?) (e2 : w'.heap[r]? = w.heap[r]?) : RangeIs κ w' b r n f todo cnt := by
  obtain ⟨D, left, ⟨es, clock, since, seen, c0, hb, F, hs, hD, hr, rest⟩, h2⟩ := h
  exact ⟨D, left, ⟨es, clock, since, seen, c0, e1.trans hb, F, hs, hD, e2.trans hr, rest⟩, h2⟩
theorem RangeIs.congr (h : RangeIs κ w b r n f todo cnt) (e : ∀ a, κ.ok a → f a = g a) : RangeIs κ w b r n g todo cnt := let ⟨D, left, h1, h2, h3⟩ := h; ⟨D, left, h1, h2.congr e, h3⟩
/-- What is still to come is in the map. -/
theorem RangeIs.todo_in (h : RangeIs κ w b r n f todo cnt) {a : α} (ha : κ.ok a) (ht : todo a = true) : (f a).isSome = true := by
  obtain ⟨D, left, h1, h2, h3⟩ := h
  rw [← h3 a ha] at ht
  rw [← h2.has_ ha]
  obtain ⟨es, clock, since, seen, c0, hb, F, hs, rfl, hr, _, _, _, h4, _⟩ := h1
  obtain ⟨x, hx, hxk⟩ := h4 _ ht
  exact List.any_eq_true.2 ⟨WideElems.rg P t raw x, mem_sorted.2 (List.mem_map.2 ⟨x, hx, rfl⟩), by rw [hxk]; exact WideAt.sameKey_self (κ.isKey ha)⟩

theorem MapIs.range {tm e : TypeId} (h : MapIs κ w b n f) (ht : P.underlying tm = some (.map t e)) :
    ∃ w', (Instr.range tm (.map (some b))).run P w = .ok (.pointer (some ⟨w.heap.size, 0, none⟩)) w' ∧ (∃ cnt, cnt ≤ n ∧ RangeIs κ w' b w.heap.size n f (fun a => (f a).isSome) cnt) ∧ w.grownBy w' none ∧ w'.heap.size = w.heap.size + 1 := by
  obtain ⟨D, h1, h2⟩ := h
  obtain ⟨w', hr, h3, h4, h5⟩ := h1.range κ.law ht
  exact ⟨w', hr, ⟨_, h1.size_le, D, _, h3, h2, fun a ha => h2.has_ ha⟩, h4, h5⟩
theorem RangeIs.next [DecidableEq α] (h : RangeIs κ w b r n f todo cnt) (ty : TypeId) :
    (cnt = 0 ∧ (∀ a, κ.ok a → todo a = false) ∧ (Instr.next (.pointer (some ⟨r, 0, none⟩)) false ty).run P w = .ok (.tuple #[.bool false]) w) ∨
    ∃ a v w' cnt', κ.ok a ∧ todo a = true ∧ f a = some v ∧ (Instr.next (.pointer (some ⟨r, 0, none⟩)) false ty).run P w = .ok (.tuple #[.bool true, κ.val a, v]) w' ∧
      RangeIs κ w' b r n f (fun z => todo z && !decide (z = a)) cnt' ∧ cnt' < cnt ∧ w.grownBy w' (some r) ∧ w'.heap.size = w.heap.size ∧ (Instr.entry (.pointer (some ⟨r, 0, none⟩))).run P w' = .ok (.tuple #[κ.val a, v]) w' := by
  obtain ⟨D, left, h1, h2, h3⟩ := h
  rcases h1.next κ.law ty with ⟨h0, hl, hrun⟩ | ⟨key, v, kl, y, w', cnt', hkey, hlk, hv, hat, hrun, hrg, hlt, hgr, hsz, hen⟩
  · exact .inl ⟨h0, fun a ha => by rw [← h3 a ha]; exact hl _, hrun⟩
  · obtain ⟨a, ha, rfl⟩ := κ.inv _ _ hkey
    obtain rfl : κ.lit a = kl := by rw [κ.is ha] at hkey; exact Option.some.inj hkey
    have hy := raw_inv hv
    subst hy
    refine .inr ⟨a, v, w', cnt', ha, by rw [← h3 a ha]; exact hlk, ?_, hrun, ⟨D, _, hrg, h2, fun z hz => by rw [h3 z hz, κ.same hz ha]⟩, hlt, hgr, hsz, hen⟩
    have := hat .nil
    rw [h2.at_ ha] at this
    cases hf : f a with
    | none => rw [hf] at this; cases this
    | some u => rw [hf] at this; simp at this; rw [this]
end
section
open Go.WideElems (Fit rd rg rg_of rd_key rd_mk)
variable {P : Program} {t : TypeId} {α : Type} {κ : KeyTy P t α} {w w' : World} {b n r cnt : Nat} {f : α → Option Value} {todo : α → Bool}
theorem RangeIs.drop [DecidableEq α] {tm e : TypeId} (h : RangeIs κ w b r n f todo cnt) (ht : P.underlying tm = some (.map t e)) {a : α} (ha : κ.ok a) (ty : TypeId) :
    ∃ w' cnt', (Builtin.delete_ #[tm, t] ty #[.map (some b), κ.val a]).run P w = .ok (.tuple #[]) w' ∧ RangeIs κ w' b r n (upd f a none) (fun z => todo z && !decide (z = a)) cnt' ∧ cnt' ≤ cnt ∧ w.mapTurned w' b := by
  obtain ⟨D, left, h1, h2, h3⟩ := h
  obtain ⟨w', cnt', hr, h4, h5, h6⟩ := h1.drop κ.law ht (κ.is ha) ty
  exact ⟨w', cnt', hr, ⟨_, _, h4, h2.del_ ha, fun z hz => by rw [h3 z hz, κ.same hz ha]⟩, h5, h6⟩
theorem MapIs.drop [DecidableEq α] {tm e : TypeId} (h : MapIs κ w b n f) (ht : P.underlying tm = some (.map t e)) {a : α} (ha : κ.ok a) (ty : TypeId) :
    ∃ w', (Builtin.delete_ #[tm, t] ty #[.map (some b), κ.val a]).run P w = .ok (.tuple #[]) w' ∧ MapIs κ w' b n (upd f a none) ∧ w.mapTurned w' b := by
  obtain ⟨D, h1, h2⟩ := h
  obtain ⟨w', hr, h3, h4⟩ := h1.drop κ.law ht (κ.is ha) ty
  exact ⟨w', hr, ⟨_, h3, h2.del_ ha⟩, h4⟩
/-- A store at a key that is there, into the map that is ranged over. -/
theorem RangeIs.put_ [DecidableEq α] {tm e : TypeId} (h : RangeIs κ w b r n f todo cnt) (ht : P.underlying tm = some (.map t e)) (hn : n < maxLen) {a : α} (ha : κ.ok a) (hin : (f a).isSome = true) (v : Value) :
    ∃ w', (Instr.mapUpdate tm (.map (some b)) (κ.val a) v).run P w = .ok () w' ∧ RangeIs κ w' b r n (upd f a (some v)) todo cnt ∧ w.mapTurned w' b := by
  obtain ⟨D, left, h1, h2, h3⟩ := h
  have hne := h1.ne
  have hkey := κ.is ha
  have hh := h2.has_ ha
  rw [hin] at hh
  obtain ⟨w1, hr1, hown1, _⟩ := h1.owns.store κ.law ht hn hkey (hv := (rfl : raw v = some (.held v, [])))
  obtain ⟨es, clock, since, seen, c0, hb, F, hs, rfl, hr, hold, hcnt, hl1, hl2, hsc, hsk⟩ := h1
  rcases κ.law.find w hkey es.toList F.keys with ⟨_, f2⟩ | ⟨j, e0, f1, f2, f3⟩
  · exfalso
    obtain ⟨p, hp, hpk⟩ := List.any_eq_true.1 hh
    obtain ⟨x, hx, rfl⟩ := List.mem_map.1 (mem_sorted.1 hp)
    obtain ⟨y, hy⟩ := F.reads x hx
    have e1 := WideAt.sameKey_eq hpk
    rw [rg_of hy] at e1
    have hxk := rd_key hy
    rw [e1] at hxk
    exact f2 x hx (κ.law.inj hxk hkey)
  · have hrun : (Instr.mapUpdate tm (.map (some b)) (κ.val a) v).run P w = .ok () (setBlock w b (.map (es.modify j fun e' => { e' with key := κ.val a, val := v }) clock)) := by
      have hj : es[j]? = some e0 := by simpa using f2
      simp [Instr.mapUpdate, run_underlying ht, MapKept.run_getObj_map hb, κ.law.check w false hkey, f1, hj, f3, κ.law.stays w hkey, MapKept.run_setObj_map _ hb, Result.andThen, setBlock]
    obtain rfl : w1 = setBlock w b (.map (es.modify j fun e' => { e' with key := κ.val a, val := v }) clock) := by
      rw [hr1] at hrun
      exact (Result.ok.inj hrun).2
    have hlist : (es.modify j (fun e' => { e' with key := κ.val a, val := v })).toList = es.toList.set j { e0 with key := κ.val a, val := v } := by rw [Array.toList_modify, ChangeMaps.modify_eq_set _ _ _ _ f2]
    have hjl : j < es.toList.length := (List.getElem?_eq_some_iff.1 f2).1
    have hej : es.toList[j] = e0 := (List.getElem?_eq_some_iff.1 f2).2
    -- each entry has one of before with its stamp and its key, and the other way round
    have back : ∀ x ∈ es.toList.set j { e0 with key := κ.val a, val := v }, ∃ y ∈ es.toList, y.key = x.key ∧ y.born = x.born := by
      intro x hx
      obtain ⟨i, hi, rfl⟩ := List.getElem_of_mem hx
      rw [List.length_set] at hi
      refine ⟨es.toList[i], List.getElem_mem hi, ?_⟩
      rw [List.getElem_set]
      split
      · rename_i e; subst e; rw [hej]; exact ⟨f3, rfl⟩
      · exact ⟨rfl, rfl⟩
    have forth : ∀ y ∈ es.toList, ∃ x ∈ es.toList.set j { e0 with key := κ.val a, val := v }, y.key = x.key ∧ y.born = x.born := by
      intro y hy
      obtain ⟨i, hi, rfl⟩ := List.getElem_of_mem hy
      refine ⟨(es.toList.set j { e0 with key := κ.val a, val := v })[i]'(by rw [List.length_set]; exact hi), List.getElem_mem _, ?_⟩
      rw [List.getElem_set]
      split
      · rename_i e; subst e; rw [hej]; exact ⟨f3, rfl⟩
      · exact ⟨rfl, rfl⟩
    have hbk : (setBlock w b (.map (es.modify j fun e' => { e' with key := κ.val a, val := v }) clock)).heap[b]? = some (.map (es.modify j fun e' => { e' with key := κ.val a, val := v }) clock) := heap_setBlock_same hb _
    obtain ⟨es2, clock2, hb2, F2, hs2, hD2⟩ := hown1
    rw [hbk] at hb2
    obtain ⟨rfl, rfl⟩ : _ = es2 ∧ clock = clock2 := by simpa using hb2
    -- the keys read alike
    have rgk : ∀ x ∈ es.toList.set j { e0 with key := κ.val a, val := v }, ∀ y ∈ es.toList, y.key = x.key → (rg P t raw x).1 = (rg P t raw y).1 := by
      intro x hx y hy e
      obtain ⟨zx, hzx⟩ := F2.reads x (by rw [hlist]; exact hx)
      obtain ⟨zy, hzy⟩ := F.reads y hy
      have k1 := rd_key hzx
      have k2 := rd_key hzy
      rw [e, k1] at k2
      rw [rg_of hzx, rg_of hzy]
      exact Option.some.inj k2
    refine ⟨_, hrun, ⟨_, left, ⟨_, clock, since, seen, c0, hbk, F2, by simpa using hs, hD2, (ChangeMaps.heap_setBlock_other hb _ hne).trans hr, ?_, ?_, ?_, ?_, hsc, hsk⟩, h2.put_ ha v, h3⟩, ⟨es, clock, _, clock, hb, rfl⟩⟩
    · intro x hx
      rw [hlist] at hx
      obtain ⟨y, hy, _, e2⟩ := back x hx
      rw [← e2]; exact hold y hy
    · rw [← hcnt]
      have e1 : ∀ a : Array MapEntry, (leftOf a seen).size = ((a.toList.map (·.born)).filter fun e => !seen.contains e).length := fun a => by
        unfold leftOf
        rw [← Array.length_toList, Array.toList_filter, List.filter_map, List.length_map]
        rfl
      rw [e1, e1, hlist]
      have : (es.toList.set j { e0 with key := κ.val a, val := v }).map (·.born) = es.toList.map (·.born) := by
        rw [List.map_set]
        refine List.ext_getElem (by simp) (fun i h1 h2 => ?_)
        rw [List.getElem_set]
        split
        · rename_i e; subst e; simp [hej]
        · rfl
      rw [this]
    · intro x hx
      rw [hlist] at hx
      obtain ⟨y, hy, e1, e2⟩ := back x hx
      rw [rgk x hx y hy e1, hl1 y hy, e2]
    · intro kl hkl
      obtain ⟨y, hy, e⟩ := hl2 kl hkl
      obtain ⟨x, hx, e1, e2⟩ := forth y hy
      exact ⟨x, by rw [hlist]; exact hx, (rgk x hx y hy e1).trans e⟩
theorem MapIs.len {tm e : TypeId} (h : MapIs κ w b n f) (ht : P.underlying tm = some (.map t e)) (ty : TypeId) : ∃ m : Nat, m ≤ n ∧ (Builtin.len_ #[tm] ty #[.map (some b)]).run P w = .ok (.int .i64 m) w ∧
    ∀ L : List α, L.Nodup → (∀ a ∈ L, κ.ok a) → (∀ a, κ.ok a → ((f a).isSome = true ↔ a ∈ L)) → m = L.length := by
  obtain ⟨D, h1, h2⟩ := h
  refine ⟨_, h1.size_le, h1.len ht ty, fun L hn hok hL => ?_⟩
  refine Nat.le_antisymm ?_ ?_
  · have hb : MapIs κ w b n f := ⟨D, h1, h2⟩
    obtain ⟨D', h1', h2'⟩ := hb.bound L (fun a ha hne => (hL a ha).1 (by cases hf : f a with | none => exact absurd hf hne | some _ => rfl))
    have e1 := h1'.size_le
    obtain ⟨es, clock, hbk, F, hs, rfl⟩ := h1
    obtain ⟨es', clock', hbk', F', hs', rfl⟩ := h1'
    rw [hbk] at hbk'
    obtain ⟨rfl, rfl⟩ : es = es' ∧ clock = clock' := by simpa using hbk'
    exact e1
  · obtain ⟨es, clock, hbk, F, hs, rfl⟩ := h1
    have e2 : Maps.size (DataW.map ((es.toList.map (rg P t raw)).foldr DataW.insert [])) = ((es.toList.map (rg P t raw)).map (·.1)).length := by simp [Maps.size, length_sorted]
    rw [e2, ← List.length_map (f := κ.lit)]
    refine nodup_le ?_ (fun l hl => ?_)
    · rw [List.Nodup, List.pairwise_map]
      exact hn.imp_of_mem (fun {a c} ha hc hne e => hne (κ.lit_inj (hok a ha) (hok c hc) e))
    · obtain ⟨a, ha, rfl⟩ := List.mem_map.1 hl
      have hh := h2.has_ (hok a ha)
      rw [(hL a (hok a ha)).2 ha] at hh
      obtain ⟨p, hp, hpk⟩ := List.any_eq_true.1 hh
      exact List.mem_map.2 ⟨p, mem_sorted.1 hp, WideAt.sameKey_eq hpk⟩
end

/-! ### at the operation -/
section
variable {P : Program} {t : TypeId} {α : Type} {κ : KeyTy P t α} (w : World) {ops : Array Oper} {rest : List Oper} {o : Oper} {act : Act} {Q : Exit → Act → World → Prop} {b n r cnt : Nat} {f : α → Option Value} {todo : α → Bool}
theorem wpList_look_map (hg : o.guard = none) (m x : Operand) (tm : TypeId) (hop : o.op = Op.lookup tm m x true) (e : TypeId) (ht : P.underlying tm = some (.map t e)) (hm : act.eval m = .map (some b)) (h : MapIs κ w b n f) {z : Value} (hz : (zeroValue e).run P w = .ok z w) (a : α) (ha : κ.ok a) (hx : act.eval x = κ.val a)
    (hK : wpList P ops Q rest (act.put o.dst (.tuple #[(f a).getD z, .bool (f a).isSome])) w) : wpList P ops Q (o :: rest) act w := by
  refine wpList_plain hg fun K' hK' => ?_
  unfold Oper.wp
  simp [execOp, hop, hm, hx, h.look ht hz ha, Result.andThen]
  exact hK' _ _ hK
theorem wpList_look1_map (hg : o.guard = none) (m x : Operand) (tm : TypeId) (hop : o.op = Op.lookup tm m x false) (e : TypeId) (ht : P.underlying tm = some (.map t e)) (hm : act.eval m = .map (some b)) (h : MapIs κ w b n f) {z : Value} (hz : (zeroValue e).run P w = .ok z w) (a : α) (ha : κ.ok a) (hx : act.eval x = κ.val a)
    (hK : wpList P ops Q rest (act.put o.dst ((f a).getD z)) w) : wpList P ops Q (o :: rest) act w := by
  refine wpList_plain hg fun K' hK' => ?_
  unfold Oper.wp
  simp [execOp, hop, hm, hx, h.look1 ht hz ha, Result.andThen]
  exact hK' _ _ hK
theorem wpList_put_map [DecidableEq α] (hg : o.guard = none) (m x v : Operand) (tm : TypeId) (hop : o.op = Op.mapUpdate tm m x v) (e : TypeId) (ht : P.underlying tm = some (.map t e)) (hm : act.eval m = .map (some b)) (h : MapIs κ w b n f) (hn : n < maxLen) (a : α) (ha : κ.ok a) (hx : act.eval x = κ.val a) (u : Value) (hv : act.eval v = u)
    (hK : ∀ w', MapIs κ w' b (n + 1) (upd f a (some u)) → w.mapTurned w' b → wpList P ops Q rest (act.put o.dst undef) w') : wpList P ops Q (o :: rest) act w := by
  refine wpList_plain hg fun K' hK' => ?_
  obtain ⟨w', hr, r1, r2⟩ := h.put_ ht hn ha u
  unfold Oper.wp
  simp [execOp, hop, hm, hx, hv, hr, Result.andThen]
  exact hK' _ _ (hK w' r1 r2)
theorem wpList_put_range [DecidableEq α] (hg : o.guard = none) (m x v : Operand) (tm : TypeId) (hop : o.op = Op.mapUpdate tm m x v) (e : TypeId) (ht : P.underlying tm = some (.map t e)) (hm : act.eval m = .map (some b)) (h : RangeIs κ w b r n f todo cnt) (hn : n < maxLen) (a : α) (ha : κ.ok a) (hin : (f a).isSome = true) (hx : act.eval x = κ.val a) (u : Value) (hv : act.eval v = u)
    (hK : ∀ w', RangeIs κ w' b r n (upd f a (some u)) todo cnt → w.mapTurned w' b → wpList P ops Q rest (act.put o.dst undef) w') : wpList P ops Q (o :: rest) act w := by
  refine wpList_plain hg fun K' hK' => ?_
  obtain ⟨w', hr, r1, r2⟩ := h.put_ ht hn ha hin u
  unfold Oper.wp
  simp [execOp, hop, hm, hx, hv, hr, Result.andThen]
  exact hK' _ _ (hK w' r1 r2)
theorem wpList_drop_range [DecidableEq α] (hg : o.guard = none) (m x : Operand) (tm : TypeId) (hop : o.op = Op.call { callee := Callee.builtin Builtin.delete, args := #[m, x], argTypes := #[tm, t] }) (e : TypeId) (ht : P.underlying tm = some (.map t e)) (hm : act.eval m = .map (some b)) (h : RangeIs κ w b r n f todo cnt) (a : α) (ha : κ.ok a) (hx : act.eval x = κ.val a)
    (hK : ∀ w' cnt', RangeIs κ w' b r n (upd f a none) (fun z => todo z && !decide (z = a)) cnt' → cnt' ≤ cnt → w.mapTurned w' b → wpList P ops Q rest (act.put o.dst (.tuple #[])) w') : wpList P ops Q (o :: rest) act w := by
  refine wpList_plain hg fun K' hK' => ?_
  obtain ⟨w', cnt', hr, r1, r2, r3⟩ := h.drop ht ha o.type
  unfold Oper.wp
  simp [execOp, hop, resolve, invoke, builtin, hm, hx, hr, Result.andThen]
  exact hK' _ _ (hK w' cnt' r1 r2 r3)
theorem wpList_len_map (hg : o.guard = none) (m : Operand) (tm : TypeId) (hop : o.op = Op.call { callee := Callee.builtin Builtin.len, args := #[m], argTypes := #[tm] }) (e : TypeId) (ht : P.underlying tm = some (.map t e)) (hm : act.eval m = .map (some b)) (h : MapIs κ w b n f)
    (hK : ∀ k : Nat, k ≤ n → (∀ L : List α, L.Nodup → (∀ a ∈ L, κ.ok a) → (∀ a, κ.ok a → ((f a).isSome = true ↔ a ∈ L)) → k = L.length) → wpList P ops Q rest (act.put o.dst (.int .i64 k)) w) : wpList P ops Q (o :: rest) act w := by
  refine wpList_plain hg fun K' hK' => ?_
  obtain ⟨k, hk, hr, hL⟩ := h.len ht o.type
  unfold Oper.wp
  simp [execOp, hop, resolve, invoke, builtin, hm, hr, Result.andThen]
  exact hK' _ _ (hK k hk hL)
theorem wpList_range_map (hg : o.guard = none) (m : Operand) (tm : TypeId) (hop : o.op = Op.range tm m) (e : TypeId) (ht : P.underlying tm = some (.map t e)) (hm : act.eval m = .map (some b)) (h : MapIs κ w b n f)
    (hK : ∀ w' cnt, RangeIs κ w' b w.heap.size n f (fun a => (f a).isSome) cnt → cnt ≤ n → w.grownBy w' none → w'.heap.size = w.heap.size + 1 → wpList P ops Q rest (act.put o.dst (.pointer (some ⟨w.heap.size, 0, none⟩))) w') : wpList P ops Q (o :: rest) act w := by
  refine wpList_plain hg fun K' hK' => ?_
  obtain ⟨w', hr, ⟨cnt, hc, h1⟩, h2, h3⟩ := h.range ht
  unfold Oper.wp
  simp [execOp, hop, hm, hr, Result.andThen]
  exact hK' _ _ (hK w' cnt h1 hc h2 h3)
theorem wpList_next_map [DecidableEq α] (hg : o.guard = none) (it : Operand) (hop : o.op = Op.next it false) (hit : act.eval it = .pointer (some ⟨r, 0, none⟩)) (h : RangeIs κ w b r n f todo cnt)
    (hDone : cnt = 0 → (∀ a, κ.ok a → todo a = false) → wpList P ops Q rest (act.put o.dst (.tuple #[.bool false])) w)
    (hMore : ∀ (a : α) (v : Value) (w' : World) (cnt' : Nat), κ.ok a → todo a = true → f a = some v → RangeIs κ w' b r n f (fun z => todo z && !decide (z = a)) cnt' → cnt' < cnt → w.grownBy w' (some r) → w'.heap.size = w.heap.size →
      (Instr.entry (.pointer (some ⟨r, 0, none⟩))).run P w' = .ok (.tuple #[κ.val a, v]) w' → wpList P ops Q rest (act.put o.dst (.tuple #[.bool true, κ.val a, v])) w') : wpList P ops Q (o :: rest) act w := by
  refine wpList_plain hg fun K' hK' => ?_
  unfold Oper.wp
  rcases h.next o.type with ⟨h0, hl, hrun⟩ | ⟨a, v, w', cnt', ha, htd, hf, hrun, hrg, hlt, hgr, hsz, hen⟩
  · simp [execOp, hop, hit, hrun, Result.andThen]
    exact hK' _ _ (hDone h0 hl)
  · simp [execOp, hop, hit, hrun, Result.andThen]
    exact hK' _ _ (hMore a v w' cnt' ha htd hf hrg hlt hgr hsz hen)
end
section
variable {F : Fence} {nn : Nat} {P : Program} {t : TypeId} {α : Type} {κ : KeyTy P t α} (w : World) {ops : Array Oper} {rest : List Oper} {o : Oper} {act : Act} {Q : Exit → Act → World → Prop} {b n r cnt : Nat} {f : α → Option Value} {todo : α → Bool}
theorem wpListIn_range_map (hg : o.guard = none) (m : Operand) (tm : TypeId) (hop : o.op = Op.range tm m) (e : TypeId) (ht : P.underlying tm = some (.map t e)) (hm : act.eval m = .map (some b)) (h : MapIs κ w b n f)
    (hK : ∀ w' cnt, RangeIs κ w' b w.heap.size n f (fun a => (f a).isSome) cnt → cnt ≤ n → w.grownBy w' none → w'.heap.size = w.heap.size + 1 → wpListIn F nn P ops Q rest (act.put o.dst (.pointer (some ⟨w.heap.size, 0, none⟩))) w') : wpListIn F nn P ops Q (o :: rest) act w := by
  refine wpListIn_plain hg fun K' hK' => ?_
  obtain ⟨w', hr, ⟨cnt, hc, h1⟩, h2, h3⟩ := h.range ht
  unfold Oper.wpIn
  refine ⟨by simp [Oper.about, hop], ?_⟩
  rw [Oper.semAt_plain F _ _ (by rw [hop]; intro c hc'; cases hc')]
  simp [execOp, hop, hm, hr, Result.andThen]
  exact hK' _ _ (hK w' cnt h1 hc h2 h3)
theorem wpListIn_next_map [DecidableEq α] (hg : o.guard = none) (it : Operand) (hop : o.op = Op.next it false) (hit : act.eval it = .pointer (some ⟨r, 0, none⟩)) (h : RangeIs κ w b r n f todo cnt)
    (hDone : cnt = 0 → (∀ a, κ.ok a → todo a = false) → wpListIn F nn P ops Q rest (act.put o.dst (.tuple #[.bool false])) w)
    (hMore : ∀ (a : α) (v : Value) (w' : World) (cnt' : Nat), κ.ok a → todo a = true → f a = some v → RangeIs κ w' b r n f (fun z => todo z && !decide (z = a)) cnt' → cnt' < cnt → w.grownBy w' (some r) → w'.heap.size = w.heap.size →
      (Instr.entry (.pointer (some ⟨r, 0, none⟩))).run P w' = .ok (.tuple #[κ.val a, v]) w' → wpListIn F nn P ops Q rest (act.put o.dst (.tuple #[.bool true, κ.val a, v])) w') : wpListIn F nn P ops Q (o :: rest) act w := by
  refine wpListIn_plain hg fun K' hK' => ?_
  unfold Oper.wpIn
  refine ⟨by simp [Oper.about, hop], ?_⟩
  rw [Oper.semAt_plain F _ _ (by rw [hop]; intro c hc'; cases hc')]
  rcases h.next o.type with ⟨h0, hl, hrun⟩ | ⟨a, v, w', cnt', ha, htd, hf, hrun, hrg, hlt, hgr, hsz, hen⟩
  · simp [execOp, hop, hit, hrun, Result.andThen]
    exact hK' _ _ (hDone h0 hl)
  · simp [execOp, hop, hit, hrun, Result.andThen]
    exact hK' _ _ (hMore a v w' cnt' ha htd hf hrg hlt hgr hsz hen)
end
end Go.Proofs.Ytfepfpcilmaojaa.Mp
