/- The kinds of the program's plain data: a value, a term, a column, a name of a row, a version; with what their cells are. -/
import Derived.Test.YtghblnldokpceaaWWords
import Derived.Test.YtghblnldokpceaaWLast
import Derived.WalkKit
namespace Go.Proofs.Ytghblnldokpceaa.Op
open Go.RowKit Go.Proofs.YtghblnldokpceaaW.PrintWords
set_option linter.unusedVariables false

/-- api.Value -/
@[ext] structure V where
  k : Int
  b : Bool
  i : Int
  s : ByteArray
def V.cells (x : V) : List Value := [.int .i64 x.k, .bool x.b, .int .i64 x.i, .string x.s]
def V.val (x : V) : Value := .agg #[.int .i64 x.k, .bool x.b, .int .i64 x.i, .string x.s]
def V.z : V := ⟨0, false, 0, ByteArray.empty⟩
def kV : Kd V := Kd.iso (Kd.pair (Kd.int .i64) (Kd.pair Kd.bool (Kd.pair (Kd.int .i64) Kd.string))) (fun x => (x.k, x.b, x.i, x.s))
theorem kV_open {w : World} {x : V} {cs : List Value} (h : kV.K w x cs) : cs = x.cells := by
  obtain ⟨_, _, rfl, rfl, ⟨_, _, rfl, rfl, ⟨_, _, rfl, rfl, rfl⟩⟩⟩ := h
  rfl
theorem kV_K (w : World) (x : V) : kV.K w x x.cells := ⟨[_], _, rfl, rfl, [_], _, rfl, rfl, [_], _, rfl, rfl, rfl⟩
theorem kV_M (w : World) (base : Nat) (ok : Nat → Prop) (x : V) : kV.M w base ok x x.cells := ⟨[_], _, rfl, rfl, [_], _, rfl, rfl, [_], _, rfl, rfl, rfl⟩
/-- The four cells of a value at an address, as the walk asks for them. -/
def V.At (w : World) (p : Addr) (x : V) : Prop :=
  p.block < w.heap.size ∧ w.cell? p = some (.int .i64 x.k) ∧ w.cell? ⟨p.block, p.off + 1, none⟩ = some (.bool x.b) ∧ w.cell? ⟨p.block, p.off + 2, none⟩ = some (.int .i64 x.i) ∧ w.cell? ⟨p.block, p.off + 3, none⟩ = some (.string x.s)
theorem kV_at {w : World} {A : Option Addr} {n : Nat} {xs : List V} (h : kV.C w A n xs) (i : Nat) (hi : i < n) : ∃ ad, A = some ad ∧ V.At w (ad.add (i * 4)) (xs.getD i V.z) := by
  obtain ⟨ad, c, e, _, hK, hc0⟩ := Kd.C_get h V.z i (by omega) (by omega)
  have hc : ∀ j u, c[j]? = some u → w.cell? (ad.add (i * 4 + j)) = some u := hc0
  obtain rfl := kV_open hK
  rw [show ((i : Int)).toNat = i from by omega] at hc
  exact ⟨ad, e, World.block_lt_of_cell? w _ (hc 0 _ rfl), hc 0 _ rfl, by rw [← add_field _ _ 1 (by omega)]; exact hc 1 _ rfl, by rw [← add_field _ _ 2 (by omega)]; exact hc 2 _ rfl, by rw [← add_field _ _ 3 (by omega)]; exact hc 3 _ rfl⟩

/-- api.Term -/
structure T where
  c : Int
  o : Int
  v : V
def T.cells (x : T) : List Value := [.int .i64 x.c, .int .i64 x.o, .int .i64 x.v.k, .bool x.v.b, .int .i64 x.v.i, .string x.v.s]
def T.val (x : T) : Value := .agg #[.int .i64 x.c, .int .i64 x.o, .int .i64 x.v.k, .bool x.v.b, .int .i64 x.v.i, .string x.v.s]
def T.z : T := ⟨0, 0, V.z⟩
def kT : Kd T := Kd.iso (Kd.pair (Kd.int .i64) (Kd.pair (Kd.int .i64) kV)) (fun x => (x.c, x.o, x.v))
theorem kT_open {w : World} {x : T} {cs : List Value} (h : kT.K w x cs) : cs = x.cells := by
  obtain ⟨_, _, rfl, rfl, ⟨_, _, rfl, rfl, h⟩⟩ := h
  rw [kV_open h]; rfl
theorem kT_K (w : World) (x : T) : kT.K w x x.cells := ⟨[_], _, rfl, rfl, [_], _, rfl, rfl, kV_K w x.v⟩
theorem kT_M (w : World) (base : Nat) (ok : Nat → Prop) (x : T) : kT.M w base ok x x.cells := ⟨[_], _, rfl, rfl, [_], _, rfl, rfl, kV_M w base ok x.v⟩
def T.At (w : World) (p : Addr) (x : T) : Prop :=
  p.block < w.heap.size ∧ w.cell? p = some (.int .i64 x.c) ∧ w.cell? ⟨p.block, p.off + 1, none⟩ = some (.int .i64 x.o) ∧ w.cell? ⟨p.block, p.off + 2, none⟩ = some (.int .i64 x.v.k) ∧ w.cell? ⟨p.block, p.off + 3, none⟩ = some (.bool x.v.b) ∧ w.cell? ⟨p.block, p.off + 4, none⟩ = some (.int .i64 x.v.i) ∧ w.cell? ⟨p.block, p.off + 5, none⟩ = some (.string x.v.s)
theorem kT_at {w : World} {A : Option Addr} {n : Nat} {xs : List T} (h : kT.C w A n xs) (i : Nat) (hi : i < n) : ∃ ad, A = some ad ∧ T.At w (ad.add (i * 6)) (xs.getD i T.z) := by
  obtain ⟨ad, c, e, _, hK, hc0⟩ := Kd.C_get h T.z i (by omega) (by omega)
  have hc : ∀ j u, c[j]? = some u → w.cell? (ad.add (i * 6 + j)) = some u := hc0
  obtain rfl := kT_open hK
  rw [show ((i : Int)).toNat = i from by omega] at hc
  exact ⟨ad, e, World.block_lt_of_cell? w _ (hc 0 _ rfl), hc 0 _ rfl, by rw [← add_field _ _ 1 (by omega)]; exact hc 1 _ rfl, by rw [← add_field _ _ 2 (by omega)]; exact hc 2 _ rfl, by rw [← add_field _ _ 3 (by omega)]; exact hc 3 _ rfl, by rw [← add_field _ _ 4 (by omega)]; exact hc 4 _ rfl, by rw [← add_field _ _ 5 (by omega)]; exact hc 5 _ rfl⟩

/-- A block that is known whole reads as the elements that its cells say. -/
theorem C_block {α : Type} {d : Kd α} {W : World} {g : Nat} {cells : Array Value} {t : TypeId} {fr : Nat × Nat} {xs : List α} (hb : W.heap[g]? = some (.cells cells t fr)) (hr : Reps (d.K W) d.sz xs cells.toList) (hm : xs.length ≤ 9223372036854775807) : d.C W (some ⟨g, 0, none⟩) xs.length xs := by
  refine ⟨rfl, hm, fun _ => ⟨_, rfl, fun j p hj => ⟨(cells.toList.drop (j * d.sz)).take d.sz, d.K_len (hr.2 j p hj), hr.2 j p hj, fun i u hu => ?_⟩⟩⟩
  rw [add_plain, cell_of_row W g _ cells t fr hb]
  rw [List.getElem?_take] at hu
  split at hu
  · rw [List.getElem?_drop] at hu
    simpa using hu
  · cases hu
theorem C_block1 {α : Type} {d : Kd α} {W : World} {g : Nat} {cells : Array Value} {t : TypeId} {fr : Nat × Nat} {x : α} (hb : W.heap[g]? = some (.cells cells t fr)) (hr : d.K W x cells.toList) : d.C W (some ⟨g, 0, none⟩) 1 [x] := by
  have h := C_block (xs := [x]) hb (by simpa using (Reps.none (d.K W) d.sz).snoc hr (d.K_len hr)) (by simp)
  exact h
/-- Behind what only makes memory: every old cell and every old mark reads as before. -/
theorem bcell {W w1 : World} (hb : Below W.heap.size W w1) : (∀ b o, b < W.heap.size → w1.cell? ⟨b, o, none⟩ = W.cell? ⟨b, o, none⟩) ∧ (∀ b o, b < W.heap.size → w1.frozen? ⟨b, o, none⟩ = W.frozen? ⟨b, o, none⟩) :=
  ⟨fun b o h => hb.cell (p := ⟨b, o, none⟩) h, fun b o h => hb.frozen (p := ⟨b, o, none⟩) h⟩
theorem V.At.below {W w1 : World} {p : Addr} {x : V} (h : V.At W p x) (hb : Below W.heap.size W w1) : V.At w1 p x :=
  ⟨Nat.lt_of_lt_of_le h.1 hb.size, pw_cell_below hb h.2.1, pw_cell_below hb h.2.2.1, pw_cell_below hb h.2.2.2.1, pw_cell_below hb h.2.2.2.2⟩
theorem T.At.below {W w1 : World} {p : Addr} {x : T} (h : T.At W p x) (hb : Below W.heap.size W w1) : T.At w1 p x :=
  ⟨Nat.lt_of_lt_of_le h.1 hb.size, pw_cell_below hb h.2.1, pw_cell_below hb h.2.2.1, pw_cell_below hb h.2.2.2.1, pw_cell_below hb h.2.2.2.2.1, pw_cell_below hb h.2.2.2.2.2.1, pw_cell_below hb h.2.2.2.2.2.2⟩
/-- Two rows of one's own, apart from each other: behind an append to the one the other is as it was, and apart. -/
theorem row_after {α : Type} {d : Kd α} {e base : Nat} {W w1 : World} {u v v1 : Value} {xs : List α} (h : d.R e W base (fun b => some b ≠ v.ownBlock) u xs) (hg : W.grownBy w1 v.ownBlock) (hat : v1.ownBlock = v.ownBlock ∨ ∃ b, v1.ownBlock = some b ∧ W.heap.size ≤ b) : d.R e w1 base (fun b => some b ≠ v1.ownBlock) u xs :=
  Kd.R_mono (Kd.R_after (ok := fun _ => True) (Kd.R_mono h (fun _ hk => ⟨trivial, hk⟩)) hg hat) (fun _ hk => hk.2)
theorem slice_alloc (w : World) (o : Obj) (n c : Nat) : Value.slice (some ⟨w.heap.size + 1, 0, none⟩) n c = Value.slice (some ⟨(w.alloc o).heap.size, 0, none⟩) n c := by rw [World.size_alloc]
theorem kV_KM {w W : World} {base : Nat} {ok : Nat → Prop} (x : V) (cs : List Value) (h : kV.K w x cs) : kV.M W base ok x cs := by rw [kV_open h]; exact kV_M _ _ _ _
theorem kT_KM {w W : World} {base : Nat} {ok : Nat → Prop} (x : T) (cs : List Value) (h : kT.K w x cs) : kT.M W base ok x cs := by rw [kT_open h]; exact kT_M _ _ _ _
/-- '[]T{}': a row of one's own without an element. -/
theorem R_empty {α : Type} (d : Kd α) (e : Nat) (w : World) (base : Nat) (ok : Nat → Prop) (hb : base ≤ w.heap.size) (hok : ok w.heap.size) : d.R e (w.alloc (.cells #[] e)) base ok (.slice (some ⟨w.heap.size, 0, none⟩) 0 0) [] := by
  refine ⟨fun k hk => ?_, [], ?_, Reps.none _ _⟩
  · have : w.heap.size = k := by simpa [Value.ownBlock] using hk
    subst this
    exact hok
  · have h2 := World.ownsRow_lit (base := base) (e := e) (size := d.sz) w #[] 0 hb (by simp) (by simp)
    simpa using h2
/-! What a region that draws its order keeps: a box's cells, and what was there. -/
theorem keep_c4 {w W w1 : World} {g : Nat} {v0 v1 v2 v3 : Value} (hb : Below W.heap.size W w1) (h : W.cell? ⟨g, 0, none⟩ = some v0 ∧ W.cell? ⟨g, 1, none⟩ = some v1 ∧ W.cell? ⟨g, 2, none⟩ = some v2 ∧ W.cell? ⟨g, 3, none⟩ = some v3 ∧ Below w.heap.size w W) : w1.cell? ⟨g, 0, none⟩ = some v0 ∧ w1.cell? ⟨g, 1, none⟩ = some v1 ∧ w1.cell? ⟨g, 2, none⟩ = some v2 ∧ w1.cell? ⟨g, 3, none⟩ = some v3 ∧ Below w.heap.size w w1 := by
  obtain ⟨h0, h1, h2, h3, hB⟩ := h
  exact ⟨pw_cell_below hb h0, pw_cell_below hb h1, pw_cell_below hb h2, pw_cell_below hb h3, hB.trans (hb.mono hB.size)⟩
theorem start_c4 {w W : World} {g : Nat} {t : TypeId} {v0 v1 v2 v3 : Value} (hB : Below w.heap.size w W) (h : W.heap[g]? = some (.cells #[v0, v1, v2, v3] t (0, 0))) : W.drew.cell? ⟨g, 0, none⟩ = some v0 ∧ W.drew.cell? ⟨g, 1, none⟩ = some v1 ∧ W.drew.cell? ⟨g, 2, none⟩ = some v2 ∧ W.drew.cell? ⟨g, 3, none⟩ = some v3 ∧ Below w.heap.size w W.drew :=
  ⟨(blk_cell h 0).trans rfl, (blk_cell h 1).trans rfl, (blk_cell h 2).trans rfl, (blk_cell h 3).trans rfl, below_drew hB⟩
theorem below_c4 {w W : World} {g : Nat} {v0 v1 v2 v3 : Value} (h : W.cell? ⟨g, 0, none⟩ = some v0 ∧ W.cell? ⟨g, 1, none⟩ = some v1 ∧ W.cell? ⟨g, 2, none⟩ = some v2 ∧ W.cell? ⟨g, 3, none⟩ = some v3 ∧ Below w.heap.size w W) : Below w.heap.size w W := h.2.2.2.2
theorem keep_c6 {w W w1 : World} {g : Nat} {v0 v1 v2 v3 v4 v5 : Value} (hb : Below W.heap.size W w1) (h : W.cell? ⟨g, 0, none⟩ = some v0 ∧ W.cell? ⟨g, 1, none⟩ = some v1 ∧ W.cell? ⟨g, 2, none⟩ = some v2 ∧ W.cell? ⟨g, 3, none⟩ = some v3 ∧ W.cell? ⟨g, 4, none⟩ = some v4 ∧ W.cell? ⟨g, 5, none⟩ = some v5 ∧ Below w.heap.size w W) : w1.cell? ⟨g, 0, none⟩ = some v0 ∧ w1.cell? ⟨g, 1, none⟩ = some v1 ∧ w1.cell? ⟨g, 2, none⟩ = some v2 ∧ w1.cell? ⟨g, 3, none⟩ = some v3 ∧ w1.cell? ⟨g, 4, none⟩ = some v4 ∧ w1.cell? ⟨g, 5, none⟩ = some v5 ∧ Below w.heap.size w w1 := by
  obtain ⟨h0, h1, h2, h3, h4, h5, hB⟩ := h
  exact ⟨pw_cell_below hb h0, pw_cell_below hb h1, pw_cell_below hb h2, pw_cell_below hb h3, pw_cell_below hb h4, pw_cell_below hb h5, hB.trans (hb.mono hB.size)⟩
theorem start_c6 {w W : World} {g : Nat} {t : TypeId} {v0 v1 v2 v3 v4 v5 : Value} (hB : Below w.heap.size w W) (h : W.heap[g]? = some (.cells #[v0, v1, v2, v3, v4, v5] t (0, 0))) : W.drew.cell? ⟨g, 0, none⟩ = some v0 ∧ W.drew.cell? ⟨g, 1, none⟩ = some v1 ∧ W.drew.cell? ⟨g, 2, none⟩ = some v2 ∧ W.drew.cell? ⟨g, 3, none⟩ = some v3 ∧ W.drew.cell? ⟨g, 4, none⟩ = some v4 ∧ W.drew.cell? ⟨g, 5, none⟩ = some v5 ∧ Below w.heap.size w W.drew :=
  ⟨(blk_cell h 0).trans rfl, (blk_cell h 1).trans rfl, (blk_cell h 2).trans rfl, (blk_cell h 3).trans rfl, (blk_cell h 4).trans rfl, (blk_cell h 5).trans rfl, below_drew hB⟩
theorem below_c6 {w W : World} {g : Nat} {v0 v1 v2 v3 v4 v5 : Value} (h : W.cell? ⟨g, 0, none⟩ = some v0 ∧ W.cell? ⟨g, 1, none⟩ = some v1 ∧ W.cell? ⟨g, 2, none⟩ = some v2 ∧ W.cell? ⟨g, 3, none⟩ = some v3 ∧ W.cell? ⟨g, 4, none⟩ = some v4 ∧ W.cell? ⟨g, 5, none⟩ = some v5 ∧ Below w.heap.size w W) : Below w.heap.size w W := h.2.2.2.2.2.2
theorem ret_int {k : IntKind} {a b : Int} (h : b = a) : Ending.returned (.int k a) = .returned (.int k b) := by rw [h]
theorem ret_bool {a b : Bool} (h : b = a) : Ending.returned (.bool a) = .returned (.bool b) := by rw [h]
end Go.Proofs.Ytghblnldokpceaa.Op
