/- The parts QVx0, Open, XOpen, XOpen3, StabP, Clone, Seq, Round, Values, RoundW, Stab, Stab2, Stab3, Stab4, Stab5, Stab6, Stab7, Stab8, QVx1, QVx2 of this proof, one behind the other. -/
import Derived.Test.YtghblnldokpceaaZW1
import Derived.Test.YtghblnldokpceaaProg
import Derived.Below
import Derived.Deep.Draws
import Derived.Deep.AppendLies
import Derived.Maps.AppendAt
import Derived.OwnWalk
import Derived.Laws.BytesArg
import Derived.Laws.MakeOwn
import Derived.Laws.OwnMore
import Derived.Deep.OwnRows
import Derived.Tactics
import Derived.Lib.ConvBytes
import Derived.Laws.Slices
import Derived.WalkKit
import Derived.KernelRfl
import Derived.RowKit3
import Derived.Deep.LoopGhost
import Derived.Deep.QuietTactic
import Derived.BigQuiet
import Derived.WideLaws
import Derived.Deep.DeepCutAuto
import Derived.Deep.CutBlock
import Derived.Deep.RegionHeld3
import Derived.Laws.Rows
import Derived.Lib.AppendStr
import Derived.ArgAppend
import Derived.Laws.IdiomCopy
import Derived.OrdersHeld
import Derived.Laws.BitsLemmas
import Derived.RowKit
import Derived.Test.YtghblnldokpceaaRows
import Derived.ProofKit
import Derived.OpenShut
import Derived.SizedLaws
import Derived.WalkSpells
import Derived.Lib.Hide
import Derived.RangeFuncNested
import Derived.RangeFuncBound
import Derived.RangeFuncCalls
import Derived.RangeFuncLeaves
import Derived.OrdersIn
import Derived.TacticsIn
import Derived.Deep.RegionHeld
import Derived.Shelf.Abstract
import Derived.OwnWalkIn
import Derived.TacticsInMore
import Derived.LoopNIn
import Derived.LoopIn
import Derived.Shelf.RegionOpenPlain
/- Printed by mp.py (this session's) with the kit's print: plain functions with the answers of the Go code, and the proofs of it. -/
namespace Go.Proofs.Ytghblnldokpceaa.QV
open Go.RowKit Go.Proofs.YtghblnldokpceaaW.PrintWords Go.Proofs.YtghblnldokpceaaW.PrintLast Go.Proofs.YtghblnldokpceaaW.PrintMore
attribute [local go_sem] max2_int min2_int max_two min_two max_three min_three max_four min_four   -- for this text's walks alone
set_option linter.unusedVariables false
set_option linter.unusedSimpArgs false



def errW : Option Int → Value
  | none => .nilIface
  | some c => .iface 0 (.int .i64 c)
theorem errW_none : errW none = .nilIface := rfl
theorem errW_some (c : Int) : errW (some c) = .iface 0 (.int .i64 c) := rfl

theorem info31 : (Try.prog.info? 31).map (fun i => (i.zero, i.size, i.bytes)) = some (some (.slice none 0 0), 1, 24) := by kernel_rfl
theorem info42 : (Try.prog.info? 42).map (fun i => (i.zero, i.size, i.bytes)) = some (some (.agg #[(.int .i64 0), (.bool false), (.int .i64 0), (.string ⟨#[]⟩)]), 4, 40) := by kernel_rfl
-- the values' own types
/-! #### struct type 42 -/
structure S42 where
  f0 : Int
  f1 : Bool
  f2 : Int
  f3 : ByteArray
def z42 : S42 := ⟨(0 : Int), false, (0 : Int), (⟨#[]⟩ : ByteArray)⟩
def k42 : Kd S42 := Kd.iso (Kd.pair (Kd.int .i64) (Kd.pair Kd.bool (Kd.pair (Kd.int .i64) Kd.string))) (fun x : S42 => (x.f0, x.f1, x.f2, x.f3))
theorem k42_open {w : World} {x : S42} {cs : List Value} (h : k42.K w x cs) : cs = [.int .i64 x.f0, .bool x.f1, .int .i64 x.f2, .string x.f3] := by
  obtain ⟨_, _, rfl, rfl, ⟨_, _, rfl, rfl, ⟨_, _, rfl, rfl, rfl⟩⟩⟩ := h
  exact rfl
theorem k42_mk (w : World) (x : S42)  : k42.K w x [.int .i64 x.f0, .bool x.f1, .int .i64 x.f2, .string x.f3] := ⟨[.int .i64 x.f0], [.bool x.f1, .int .i64 x.f2, .string x.f3], rfl, rfl, ⟨[.bool x.f1], [.int .i64 x.f2, .string x.f3], rfl, rfl, ⟨[.int .i64 x.f2], [.string x.f3], rfl, rfl, rfl⟩⟩⟩
theorem k42_mkM (w : World) (base : Nat) (ok : Nat → Prop) (x : S42)  : k42.M w base ok x [.int .i64 x.f0, .bool x.f1, .int .i64 x.f2, .string x.f3] := ⟨[.int .i64 x.f0], [.bool x.f1, .int .i64 x.f2, .string x.f3], rfl, rfl, ⟨[.bool x.f1], [.int .i64 x.f2, .string x.f3], rfl, rfl, ⟨[.int .i64 x.f2], [.string x.f3], rfl, rfl, rfl⟩⟩⟩
def rd_T42 (xs : List S42) (i : Int) : S42 := xs.getD i.toNat z42
theorem at_T42 {w : World} {A : Option Addr} {n : Nat} {xs : List S42} (h : Kd.C k42 w A n xs) (i : Int) (h0 : 0 ≤ i) (h1 : i < n) : ∃ ad , A = some ad ∧ w.cell? (ad.add (i.toNat * 4)) = some (.int .i64 (rd_T42 xs i).f0) ∧ w.cell? ⟨(ad.add (i.toNat * 4)).block, (ad.add (i.toNat * 4)).off + 1, none⟩ = some (.bool (rd_T42 xs i).f1) ∧ w.cell? ⟨(ad.add (i.toNat * 4)).block, (ad.add (i.toNat * 4)).off + 2, none⟩ = some (.int .i64 (rd_T42 xs i).f2) ∧ w.cell? ⟨(ad.add (i.toNat * 4)).block, (ad.add (i.toNat * 4)).off + 3, none⟩ = some (.string (rd_T42 xs i).f3) := by
  obtain ⟨ad, c, e, _, hK, hc0⟩ := Kd.C_get h z42 i h0 h1
  have hc : ∀ j u, c[j]? = some u → w.cell? (ad.add (i.toNat * 4 + j)) = some u := hc0
  obtain rfl := k42_open hK
  exact ⟨ad, e, hc 0 _ rfl, by rw [← add_field _ _ 1 (by omega)]; exact hc 1 _ rfl, by rw [← add_field _ _ 2 (by omega)]; exact hc 2 _ rfl, by rw [← add_field _ _ 3 (by omega)]; exact hc 3 _ rfl⟩

def rd_L4 (xs : List (List S42)) (i : Int) : (List S42) := xs.getD i.toNat ([] : List S42)
theorem at_L4 {w : World} {A : Option Addr} {n : Nat} {xs : List (List S42)} (h : Kd.C (Kd.slice 42 k42) w A n xs) (i : Int) (h0 : 0 ≤ i) (h1 : i < n) : ∃ ad A0 c0, A = some ad ∧ w.cell? (ad.add i.toNat) = some (.slice A0 (rd_L4 xs i).length c0) ∧ (rd_L4 xs i).length ≤ c0 ∧ k42.C w A0 (rd_L4 xs i).length (rd_L4 xs i) := by
  obtain ⟨ad, c, e, _, hK, hc0⟩ := Kd.C_get h ([] : List S42) i h0 h1
  have hc : ∀ j u, c[j]? = some u → w.cell? (ad.add (i.toNat * 1 + j)) = some u := hc0
  obtain ⟨A0, c0, rfl, l0, g0⟩ := hK
  exact ⟨ad, A0, c0, e, by have hq := hc 0 _ rfl; rwa [Nat.mul_one, Nat.add_zero] at hq, l0, g0⟩

/-! #### struct type 83 -/
structure S83 where
  f0 : Int
  f1 : Int
def z83 : S83 := ⟨(0 : Int), (0 : Int)⟩
def k83 : Kd S83 := Kd.iso (Kd.pair (Kd.int .u64) (Kd.int .u32)) (fun x : S83 => (x.f0, x.f1))
theorem k83_open {w : World} {x : S83} {cs : List Value} (h : k83.K w x cs) : cs = [.int .u64 x.f0, .int .u32 x.f1] := by
  obtain ⟨_, _, rfl, rfl, rfl⟩ := h
  exact rfl
/-! #### struct type 85 -/
structure S85 where
  f0 : S83
  f1 : (List S42)
  f2 : Int
def z85 : S85 := ⟨z83, ([] : List S42), (0 : Int)⟩
def k85 : Kd S85 := Kd.iso (Kd.pair k83 (Kd.pair (Kd.slice 42 k42) (Kd.int .u64))) (fun x : S85 => (x.f0, x.f1, x.f2))
theorem k85_open {w : World} {x : S85} {cs : List Value} (h : k85.K w x cs) : ∃ A2 c2, cs = [.int .u64 x.f0.f0, .int .u32 x.f0.f1, .slice A2 x.f1.length c2, .int .u64 x.f2] ∧ x.f1.length ≤ c2 ∧ k42.C w A2 x.f1.length x.f1 := by
  obtain ⟨_, _, rfl, s0, ⟨_, _, rfl, ⟨A2, c2, rfl, l2, g2⟩, rfl⟩⟩ := h
  obtain rfl := k83_open s0
  exact ⟨A2, c2, rfl, l2, g2⟩
def rd_T85 (xs : List S85) (i : Int) : S85 := xs.getD i.toNat z85
theorem at_T85 {w : World} {A : Option Addr} {n : Nat} {xs : List S85} (h : Kd.C k85 w A n xs) (i : Int) (h0 : 0 ≤ i) (h1 : i < n) : ∃ ad A2 c2, A = some ad ∧ w.cell? (ad.add (i.toNat * 4)) = some (.int .u64 (rd_T85 xs i).f0.f0) ∧ w.cell? ⟨(ad.add (i.toNat * 4)).block, (ad.add (i.toNat * 4)).off + 1, none⟩ = some (.int .u32 (rd_T85 xs i).f0.f1) ∧ w.cell? ⟨(ad.add (i.toNat * 4)).block, (ad.add (i.toNat * 4)).off + 2, none⟩ = some (.slice A2 (rd_T85 xs i).f1.length c2) ∧ w.cell? ⟨(ad.add (i.toNat * 4)).block, (ad.add (i.toNat * 4)).off + 3, none⟩ = some (.int .u64 (rd_T85 xs i).f2) ∧ (rd_T85 xs i).f1.length ≤ c2 ∧ k42.C w A2 (rd_T85 xs i).f1.length (rd_T85 xs i).f1 := by
  obtain ⟨ad, c, e, _, hK, hc0⟩ := Kd.C_get h z85 i h0 h1
  have hc : ∀ j u, c[j]? = some u → w.cell? (ad.add (i.toNat * 4 + j)) = some u := hc0
  obtain ⟨A2, c2, rfl, l2, g2⟩ := k85_open hK
  exact ⟨ad, A2, c2, e, hc 0 _ rfl, by rw [← add_field _ _ 1 (by omega)]; exact hc 1 _ rfl, by rw [← add_field _ _ 2 (by omega)]; exact hc 2 _ rfl, by rw [← add_field _ _ 3 (by omega)]; exact hc 3 _ rfl, l2, g2⟩

/-! #### struct type 77 -/
structure S77 where
  f0 : Int
  f1 : Bool
def z77 : S77 := ⟨(0 : Int), false⟩
def k77 : Kd S77 := Kd.iso (Kd.pair (Kd.int .i64) Kd.bool) (fun x : S77 => (x.f0, x.f1))
theorem k77_open {w : World} {x : S77} {cs : List Value} (h : k77.K w x cs) : cs = [.int .i64 x.f0, .bool x.f1] := by
  obtain ⟨_, _, rfl, rfl, rfl⟩ := h
  exact rfl
def rd_T77 (xs : List S77) (i : Int) : S77 := xs.getD i.toNat z77
theorem at_T77 {w : World} {A : Option Addr} {n : Nat} {xs : List S77} (h : Kd.C k77 w A n xs) (i : Int) (h0 : 0 ≤ i) (h1 : i < n) : ∃ ad , A = some ad ∧ w.cell? (ad.add (i.toNat * 2)) = some (.int .i64 (rd_T77 xs i).f0) ∧ w.cell? ⟨(ad.add (i.toNat * 2)).block, (ad.add (i.toNat * 2)).off + 1, none⟩ = some (.bool (rd_T77 xs i).f1) := by
  obtain ⟨ad, c, e, _, hK, hc0⟩ := Kd.C_get h z77 i h0 h1
  have hc : ∀ j u, c[j]? = some u → w.cell? (ad.add (i.toNat * 2 + j)) = some u := hc0
  obtain rfl := k77_open hK
  exact ⟨ad, e, hc 0 _ rfl, by rw [← add_field _ _ 1 (by omega)]; exact hc 1 _ rfl⟩

end Go.Proofs.Ytghblnldokpceaa.QV
/- How an argument that reads as data is opened into kinds (Kd) of the print's words: whole numbers, bools, strings, structs, arrays of two and three, slices of these, at any depth; with the bounds that the row's reach and its bulk give. -/
namespace Go.Proofs.Ytghblnldokpceaa.Op
open Go.RowKit Go.Proofs.YtghblnldokpceaaW.PrintWords
set_option linter.unusedVariables false

def Opens {α : Type} (P : Program) (t : TypeId) (d : Kd α) (g : α → Prop) (m : α → Nat) : Prop :=
  ∀ {H : Type} (enc : TypeId × Value → H) (w : World) (base : Nat) (spare : Nat → Bool) (held : Bool) (fuel : Nat) (cs : List Value) (x : DataW H × List MemPlace),
    DataW.trod enc P w base spare held fuel t cs = some x → (∀ n ∈ x.1.weights P t, n ≤ reachBytes) → ∃ a, d.K w a cs ∧ g a ∧ m a ≤ Rows.uptoBulk x.1

theorem opens_int {P : Program} {t : TypeId} {k : IntKind} (ht : P.underlying t = some (.int k)) : Opens P t (Kd.int k) (fun n => (Lit.int k n).wf = true) (fun _ => 1) := by
  intro H enc w base spare held fuel cs x h _
  obtain ⟨n, rfl, rfl, hw⟩ := DataW.trod_int ht h
  exact ⟨n, rfl, hw, by simp [Rows.uptoBulk]⟩
theorem opens_bool {P : Program} {t : TypeId} (ht : P.underlying t = some .bool) : Opens P t Kd.bool (fun _ => True) (fun _ => 1) := by
  intro H enc w base spare held fuel cs x h _
  obtain ⟨b, rfl, rfl⟩ := DataW.trod_bool ht h
  exact ⟨b, rfl, trivial, by simp [Rows.uptoBulk]⟩
theorem opens_string {P : Program} {t : TypeId} (ht : P.underlying t = some .string) : Opens P t Kd.string (fun s => s.size ≤ 140737488351232) (fun s => s.size + 1) := by
  intro H enc w base spare held fuel cs x h hs
  obtain ⟨s, rfl, rfl, hw⟩ := DataW.trod_string ht h
  have hl : s.data.toList.length = s.size := by rw [Array.length_toList]; rfl
  refine ⟨s, rfl, ?_, by simp only [Rows.uptoBulk]; omega⟩
  have := hs s.data.toList.length (by simp [DataW.weights])
  rw [hl] at this
  exact this

theorem add_add (a : Addr) (m j : Nat) : (a.add m).add j = a.add (m + j) := by
  unfold Addr.add
  by_cases h1 : m = 0
  · subst h1; simp
  · by_cases h2 : j = 0
    · subst h2; simp [h1]
    · simp [h1, h2, Nat.add_assoc]
theorem cells_get {w : World} {base n : Nat} {a : Addr} {cs : List Value} (h : w.cells? base a n = some cs) : cs.length = n ∧ ∀ j u, cs[j]? = some u → w.cell? (a.add j) = some u := by
  unfold World.cells? at h
  split at h
  · have hl := mapM_some_length h
    refine ⟨by simpa using hl, fun j u hu => ?_⟩
    have hj : j < cs.length := (List.getElem?_eq_some_iff.1 hu).1
    have := mapM_some_get h j j (by rw [List.getElem?_range]; rw [hl] at hj; simpa using hj)
    rw [this]; exact hu
  · cases h

theorem weightsAll_mem {H : Type} {P : Program} {e : TypeId} : ∀ {l : List (DataW H)} {x : DataW H}, x ∈ l → ∀ n ∈ x.weights P e, n ∈ DataW.weightsAll P e l
  | [], _, h => by simp at h
  | y :: r, x, h => by
    intro n hn
    simp only [DataW.weightsAll, List.mem_append]
    rcases List.mem_cons.1 h with rfl | h
    · exact .inl hn
    · exact .inr (weightsAll_mem h n hn)

/-- One list of data against one list of values, element by element. -/
theorem all_open {α : Type} {H : Type} {K : α → List Value → Prop} {g : α → Prop} {m : α → Nat} {css : Nat → List Value → Prop} :
    ∀ (elems : List (DataW H × List MemPlace)) (o : Nat), (∀ i x, elems[i]? = some x → ∃ a cs, css (o + i) cs ∧ K a cs ∧ g a ∧ m a ≤ Rows.uptoBulk x.1) →
      ∃ zs : List α, zs.length = elems.length ∧ (∀ i a, zs[i]? = some a → ∃ cs, css (o + i) cs ∧ K a cs) ∧ (∀ a ∈ zs, g a) ∧ (zs.map m).sum ≤ Rows.uptoBulkAll (elems.map (·.1))
  | [], o, _ => ⟨[], rfl, by simp, by simp, by simp⟩
  | x :: r, o, h => by
    obtain ⟨a, cs, h1, h2, h3, h4⟩ := h 0 x rfl
    obtain ⟨zs, k1, k2, k3, k4⟩ := all_open (css := css) r (o + 1) (fun i y hy => by
      have := h (i + 1) y (by simpa using hy)
      rwa [show o + (i + 1) = o + 1 + i from by omega] at this)
    refine ⟨a :: zs, by simp [k1], fun i b hb => ?_, fun b hb => ?_, ?_⟩
    · cases i with
      | zero =>
        have : a = b := by simpa using hb
        subst this
        exact ⟨cs, h1, h2⟩
      | succ i =>
        have := k2 i b (by simpa using hb)
        rwa [show o + 1 + i = o + (i + 1) from by omega] at this
    · rcases List.mem_cons.1 hb with rfl | hb
      · exact h3
      · exact k3 b hb
    · simp only [List.map_cons, List.sum_cons, Rows.uptoBulkAll]
      omega

theorem opens_slice {P : Program} {t e : TypeId} {α : Type} {d : Kd α} {g : α → Prop} {m : α → Nat} (ht : P.underlying t = some (.slice e)) (hc : P.cellsOf e = d.sz) {B : Nat} (hB : P.bytesOf e = B) (he : Opens P e d g m) :
    Opens P t (Kd.slice e d) (fun xs => (∀ x ∈ xs, g x) ∧ xs.length ≤ 9223372036854775807 ∧ xs.length * B ≤ 140737488351232) (fun xs => (xs.map m).sum + 1) := by
  intro H enc w base spare held fuel cs x h hs
  rcases DataW.trod_slice ht h with ⟨rfl, rfl⟩ | ⟨a, len, cap, elems, rest, n, rfl, rfl, rfl, _, hl, hm, hel, hget, _⟩
  · exact ⟨[], ⟨none, 0, rfl, Nat.le_refl _, Kd.C_nil d w⟩, by simp, by simp [Rows.uptoBulk]⟩
  · have hw : ∀ y ∈ elems, ∀ n ∈ y.1.weights P e, n ≤ reachBytes := fun y hy n hn => hs n (by
      simp only [DataW.weights, ht, List.mem_cons, List.mem_append]
      exact .inr (.inl (weightsAll_mem (List.mem_map_of_mem hy) n hn)))
    have hlen : (elems.map (·.1)).length + (rest.map (·.1)).length = elems.length + rest.length := by simp
    have hb := hs _ (by simp only [DataW.weights, ht, List.mem_cons]; exact .inl rfl)
    rw [hlen, hB] at hb
    obtain ⟨zs, k1, k2, k3, k4⟩ := all_open (K := d.K w) (g := g) (m := m) (css := fun i cs => w.cells? base (a.add (i * d.sz)) d.sz = some cs) elems 0 (fun i y hy => by
      have hi : i < len := by rw [← hel]; exact (List.getElem?_eq_some_iff.1 hy).1
      have hg := hget i hi
      rw [hy, hc] at hg
      obtain ⟨cs, h1, h2⟩ := Option.bind_eq_some_iff.1 hg
      obtain ⟨b, h3, h4, h5⟩ := he enc w base spare held n cs y h2 (hw y (List.mem_of_getElem? hy))
      exact ⟨b, cs, by simpa using h1, h3, h4, h5⟩)
    have hle : zs.length * B ≤ 140737488351232 := by
      rw [k1]
      exact Nat.le_trans (Nat.mul_le_mul_right _ (Nat.le_add_right _ _)) hb
    have hmax : zs.length ≤ 9223372036854775807 := by
      rw [k1, hel]; unfold maxLen at hm; omega
    refine ⟨zs, ⟨some a, cap, by rw [k1, hel], by rw [k1, hel]; exact hl, rfl, hmax, fun _ => ⟨a, rfl, fun j p hj => ?_⟩⟩, ⟨k3, hmax, hle⟩, ?_⟩
    · obtain ⟨cs, h1, h2⟩ := k2 j p hj
      obtain ⟨h3, h4⟩ := cells_get h1
      simp only [Nat.zero_add] at h4
      exact ⟨cs, h3, h2, fun i u hu => by rw [← add_add]; exact h4 i u hu⟩
    · simp only [Rows.uptoBulk]; omega

/-- A struct's fields from place o on. -/
def OpensF {α : Type} (P : Program) (fs : List Field) (o : Nat) (d : Kd α) (g : α → Prop) (m : α → Nat) : Prop :=
  ∀ {H : Type} (enc : TypeId × Value → H) (w : World) (base : Nat) (spare : Nat → Bool) (held : Bool) (fuel : Nat) (cs : List Value) (xs : List (DataW H × List MemPlace)),
    xs.length = fs.length → (∀ (i : Nat) (f : Field), fs[i]? = some f → DataW.trod enc P w base spare held fuel f.type ((cs.drop f.offset).take (P.cellsOf f.type)) = xs[i]?) → cs.length = o + d.sz →
      (∀ n ∈ DataW.weightsEach P (fs.map (·.type)) (xs.map (·.1)), n ≤ reachBytes) → ∃ a, d.K w a (cs.drop o) ∧ g a ∧ m a ≤ Rows.uptoBulkAll (xs.map (·.1))
theorem opensF_last {P : Program} {f : Field} {o : Nat} {α : Type} {d : Kd α} {g : α → Prop} {m : α → Nat} (ho : f.offset = o) (hc : P.cellsOf f.type = d.sz) (h : Opens P f.type d g m) : OpensF P [f] o d g m := by
  intro H enc w base spare held fuel cs xs hl hget hcs hs
  match xs, hl with
  | [x], _ =>
    have h1 := hget 0 f rfl
    simp only [List.getElem?_cons_zero, ho, hc] at h1
    rw [List.take_of_length_le (by rw [List.length_drop]; omega)] at h1
    obtain ⟨a, k1, k2, k3⟩ := h enc w base spare held fuel _ x h1 (fun n hn => hs n (by simp only [List.map_cons, DataW.weightsEach, List.mem_append]; exact .inl hn))
    exact ⟨a, k1, k2, by simp only [List.map_cons, Rows.uptoBulkAll]; omega⟩
theorem opensF_cons {P : Program} {f : Field} {fs : List Field} {o o' : Nat} {α β : Type} {d : Kd α} {g : α → Prop} {m : α → Nat} {d' : Kd β} {g' : β → Prop} {m' : β → Nat} (ho : f.offset = o) (hc : P.cellsOf f.type = d.sz) (hoo : o + d.sz = o')
    (h : Opens P f.type d g m) (h' : OpensF P fs o' d' g' m') : OpensF P (f :: fs) o (Kd.pair d d') (fun x => g x.1 ∧ g' x.2) (fun x => m x.1 + m' x.2) := by
  intro H enc w base spare held fuel cs xs hl hget hcs hs
  match xs, hl with
  | x :: r, hl =>
    have hsz : (Kd.pair d d').sz = d.sz + d'.sz := rfl
    rw [hsz] at hcs
    have h1 := hget 0 f rfl
    simp only [List.getElem?_cons_zero, ho, hc] at h1
    obtain ⟨a, k1, k2, k3⟩ := h enc w base spare held fuel _ x h1 (fun n hn => hs n (by simp only [List.map_cons, DataW.weightsEach, List.mem_append]; exact .inl hn))
    obtain ⟨b, q1, q2, q3⟩ := h' enc w base spare held fuel cs r (by simpa using hl) (fun (i : Nat) (f : Field) hf => by simpa using hget (i + 1) f (by simpa using hf)) (by omega) (fun n hn => hs n (by simp only [List.map_cons, DataW.weightsEach, List.mem_append]; exact .inr hn))
    refine ⟨(a, b), ⟨(cs.drop o).take d.sz, cs.drop o', ?_, k1, q1⟩, ⟨k2, q2⟩, by simp only [List.map_cons, Rows.uptoBulkAll]; omega⟩
    rw [← hoo, ← List.drop_drop, List.take_append_drop]
theorem opens_struct {P : Program} {t : TypeId} {fs : Array Field} {α : Type} {d : Kd α} {g : α → Prop} {m : α → Nat} (ht : P.underlying t = some (.struct fs)) (hc : P.cellsOf t = d.sz) (h : OpensF P fs.toList 0 d g m) : Opens P t d g m := by
  intro H enc w base spare held fuel cs x hx hs
  obtain ⟨xs, n, rfl, rfl, hl, hxl, hget⟩ := DataW.trod_struct ht hx
  obtain ⟨a, h1, h2, h3⟩ := h enc w base spare held n cs xs (by simpa using hxl) (fun i f hf => hget i f (by simpa using hf)) (by omega) (fun n hn => hs n (by simpa only [DataW.weights, ht] using hn))
  refine ⟨a, by simpa using h1, h2, ?_⟩
  simp only [Rows.uptoBulk]
  omega
theorem opens_iso {P : Program} {t : TypeId} {α β : Type} {d : Kd α} {g : α → Prop} {m : α → Nat} {f : β → α} {b : α → β} (hfb : ∀ x, f (b x) = x) (h : Opens P t d g m) : Opens P t (Kd.iso d f) (fun x => g (f x)) (fun x => m (f x)) := by
  intro H enc w base spare held fuel cs x hx hs
  obtain ⟨a, h1, h2, h3⟩ := h enc w base spare held fuel cs x hx hs
  exact ⟨b a, by show d.K w (f (b a)) cs; rw [hfb]; exact h1, by show g (f (b a)); rw [hfb]; exact h2, by show m (f (b a)) ≤ _; rw [hfb]; exact h3⟩
theorem opens_mono {P : Program} {t : TypeId} {α : Type} {d : Kd α} {g g' : α → Prop} {m m' : α → Nat} (hg : ∀ x, g x → g' x) (hm : ∀ x, m' x ≤ m x) (h : Opens P t d g m) : Opens P t d g' m' := by
  intro H enc w base spare held fuel cs x hx hs
  obtain ⟨a, h1, h2, h3⟩ := h enc w base spare held fuel cs x hx hs
  exact ⟨a, h1, hg a h2, Nat.le_trans (hm a) h3⟩
theorem len_le_sum {α : Type} {m : α → Nat} (h : ∀ x, 1 ≤ m x) : ∀ l : List α, l.length ≤ (l.map m).sum
  | [] => by simp
  | x :: l => by have := h x; have := len_le_sum h l; simp only [List.length_cons, List.map_cons, List.sum_cons]; omega
theorem mem_le_sum {α : Type} {m : α → Nat} {x : α} : ∀ {l : List α}, x ∈ l → m x ≤ (l.map m).sum
  | [], h => by simp at h
  | y :: l, h => by
    simp only [List.map_cons, List.sum_cons]
    rcases List.mem_cons.1 h with rfl | h
    · omega
    · have := mem_le_sum (m := m) h; omega
end Go.Proofs.Ytghblnldokpceaa.Op
/- How the arguments of layer 15 are opened into the print's kinds. -/
namespace Go.Proofs.Ytghblnldokpceaa.QV
open Go.RowKit Go.Proofs.YtghblnldokpceaaW.PrintWords Go.Proofs.Ytghblnldokpceaa.Op
set_option linter.unusedVariables false
theorem oS : Opens Try.prog 42 k42 (fun _ => True) (fun x => x.f3.size + 4) :=
  opens_mono (fun _ _ => trivial) (fun x => by simp only; omega)
    (opens_iso (b := fun x => ⟨x.1, x.2.1, x.2.2.1, x.2.2.2⟩) (fun _ => rfl) (opens_struct Try.underlying42 (by kernel_rfl)
      (opensF_cons rfl (by kernel_rfl) rfl (opens_int Try.underlying3) (opensF_cons rfl (by kernel_rfl) rfl (opens_bool Try.underlying4) (opensF_cons rfl (by kernel_rfl) rfl (opens_int Try.underlying2) (opensF_last rfl (by kernel_rfl) (opens_string Try.underlying9)))))))
theorem oSs : Opens Try.prog 31 (Kd.slice 42 k42) (fun xs => xs.length ≤ 9223372036854775807 ∧ xs.length * 40 ≤ 140737488351232) (fun xs => xs.length + 1) :=
  opens_mono (fun _ h => h.2) (fun xs => by have := len_le_sum (m := fun x : S42 => x.f3.size + 4) (fun _ => by omega) xs; omega) (opens_slice Try.underlying31 (by kernel_rfl) (by kernel_rfl) oS)
/-- Rows of values: how many, how long. -/
theorem oRows : Opens Try.prog 22 (Kd.slice 31 (Kd.slice 42 k42)) (fun xs => (∀ x ∈ xs, x.length * 40 ≤ 140737488351232) ∧ xs.length * 24 ≤ 140737488351232) (fun xs => (xs.map fun x => x.length + 1).sum + 1) :=
  opens_mono (fun _ h => ⟨fun x hx => (h.1 x hx).2, h.2.2⟩) (fun _ => Nat.le_refl _) (opens_slice Try.underlying22 (by kernel_rfl) (by kernel_rfl) oSs)
theorem rows_small {xs : List (List S42)} {n : Nat} (h : (xs.map fun x => x.length + 1).sum + 1 ≤ n) : (∀ x ∈ xs, x.length ≤ n) ∧ xs.length ≤ n := by
  refine ⟨fun x hx => ?_, ?_⟩
  · have := mem_le_sum (m := fun x : List S42 => x.length + 1) hx
    have this : x.length + 1 ≤ (xs.map fun x => x.length + 1).sum := this
    omega
  · have := len_le_sum (m := fun x : List S42 => x.length + 1) (fun _ => by omega) xs
    omega
end Go.Proofs.Ytghblnldokpceaa.QV
/- How orders are opened into the print's kinds. -/
namespace Go.Proofs.Ytghblnldokpceaa.QV
open Go.RowKit Go.Proofs.YtghblnldokpceaaW.PrintWords Go.Proofs.Ytghblnldokpceaa.Op
set_option linter.unusedVariables false
theorem oOrd : Opens Try.prog 77 k77 (fun _ => True) (fun x => 1) :=
  opens_mono (fun _ _ => trivial) (fun x => by omega)
    (opens_iso (b := fun x => ⟨x.1, x.2⟩) (fun _ => rfl) (opens_struct Try.underlying77 (by kernel_rfl)
      (opensF_cons rfl (by kernel_rfl) rfl (opens_int Try.underlying3) (opensF_last rfl (by kernel_rfl) (opens_bool Try.underlying4)))))
theorem oOrds : Opens Try.prog 51 (Kd.slice 77 k77) (fun xs => xs.length ≤ 9223372036854775807 ∧ xs.length * 16 ≤ 140737488351232) (fun xs => xs.length + 1) :=
  opens_mono (fun _ h => h.2) (fun xs => by have := len_le_sum (m := fun x : S77 => 1) (fun _ => by omega) xs; omega) (opens_slice Try.underlying51 (by kernel_rfl) (by kernel_rfl) oOrd)
end Go.Proofs.Ytghblnldokpceaa.QV
/- Stable sorting, plain: elements are told by where they stood first; who is ahead of whom. -/
namespace Go.Proofs.Ytghblnldokpceaa.Stab

/-- A comparison that may sort. -/
structure CmpOk (cf : Nat → Nat → Int) : Prop where
  swap : ∀ x y, cf x y < 0 ↔ 0 < cf y x
  trans : ∀ x y z, cf x y ≤ 0 → cf y z ≤ 0 → cf x z ≤ 0
def Lt (cf : Nat → Nat → Int) (x y : Nat) : Prop := cf x y < 0 ∨ (cf x y = 0 ∧ x < y)
section
variable {cf : Nat → Nat → Int}
theorem Lt.trans (h : CmpOk cf) {x y z : Nat} (a : Lt cf x y) (b : Lt cf y z) : Lt cf x z := by
  have h1 := h.trans x y z
  have h2 := h.trans y z x
  have h3 := h.trans z x y
  have e1 := h.swap x z; have e2 := h.swap z x; have e3 := h.swap x y; have e4 := h.swap y x; have e5 := h.swap y z; have e6 := h.swap z y
  unfold Lt at *
  omega
theorem Lt.asymm (h : CmpOk cf) {x y : Nat} (a : Lt cf x y) (b : Lt cf y x) : False := by
  have e3 := h.swap x y; have e4 := h.swap y x
  unfold Lt at *
  omega
/-- Of two of which the second one stood behind the first, the program's question tells it. -/
theorem Lt.of_neg {x y : Nat} (hn : cf y x < 0) : Lt cf y x := .inl hn
theorem Lt.of_not (h : CmpOk cf) {x y : Nat} (hxy : x < y) (hn : ¬ cf y x < 0) : Lt cf x y := by
  have e3 := h.swap x y; have e4 := h.swap y x
  unfold Lt
  omega
theorem unique (h : CmpOk cf) : ∀ {l l' : List Nat}, l.Perm l' → l.Pairwise (Lt cf) → l'.Pairwise (Lt cf) → l = l'
  | [], l', hp, _, _ => by rw [List.nil_perm.1 hp]
  | x :: l, [], hp, _, _ => by have := hp.length_eq; simp at this
  | x :: l, y :: l', hp, h1, h2 => by
    have hxy : x = y := by
      refine Classical.byContradiction fun hne => ?_
      have hy : y ∈ l := by
        have : y ∈ x :: l := hp.mem_iff.2 (by simp)
        rcases List.mem_cons.1 this with e | e
        · exact absurd e.symm hne
        · exact e
      have hx : x ∈ l' := by
        have : x ∈ y :: l' := hp.mem_iff.1 (by simp)
        rcases List.mem_cons.1 this with e | e
        · exact absurd e hne
        · exact e
      exact Lt.asymm h ((List.pairwise_cons.1 h1).1 y hy) ((List.pairwise_cons.1 h2).1 x hx)
    subst hxy
    rw [unique h (List.perm_cons x |>.1 hp) (List.pairwise_cons.1 h1).2 (List.pairwise_cons.1 h2).2]
theorem pw_append {R : Nat → Nat → Prop} {u v : List Nat} (hu : u.Pairwise R) (hv : v.Pairwise R) (h : ∀ x ∈ u, ∀ y ∈ v, R x y) : (u ++ v).Pairwise R := List.pairwise_append.2 ⟨hu, hv, h⟩
/-- All of u are ahead of x, if the last one is. -/
theorem all_ahead (h : CmpOk cf) {u : List Nat} {y x : Nat} (hu : (u ++ [y]).Pairwise (Lt cf)) (hy : Lt cf y x) : ∀ z ∈ u ++ [y], Lt cf z x := by
  intro z hz
  rcases List.mem_append.1 hz with hz | hz
  · exact Lt.trans h ((List.pairwise_append.1 hu).2.2 z hz y (by simp)) hy
  · rw [List.mem_singleton.1 hz]; exact hy
theorem all_behind (h : CmpOk cf) {v : List Nat} {y x : Nat} (hv : (y :: v).Pairwise (Lt cf)) (hy : Lt cf x y) : ∀ z ∈ y :: v, Lt cf x z := by
  intro z hz
  rcases List.mem_cons.1 hz with hz | hz
  · rw [hz]; exact hy
  · exact Lt.trans h hy ((List.pairwise_cons.1 hv).1 z hz)
end
theorem drop_cons {s : List Nat} {m : Nat} (h : m < s.length) : ∃ x, s.drop m = x :: s.drop (m + 1) ∧ s.take (m + 1) = s.take m ++ [x] := ⟨s[m], List.drop_eq_getElem_cons h, by rw [List.take_succ_eq_append_getElem h]⟩
theorem snoc_cases (u : List Nat) : u = [] ∨ ∃ u' y, u = u' ++ [y] := by
  rcases List.eq_nil_or_concat u with h | ⟨u', y, h⟩
  · exact .inl h
  · exact .inr ⟨u', y, by rw [h, List.concat_eq_append]⟩
end Go.Proofs.Ytghblnldokpceaa.Stab
/- slices.Clone of a row of values: a row of one's own; nil stays nil. -/
namespace Go.Proofs.Ytghblnldokpceaa.QV
open Go.RowKit Go.Proofs.YtghblnldokpceaaW.PrintWords
set_option linter.unusedVariables false
set_option linter.unusedSimpArgs false
abbrev kS : Kd S42 := k42
abbrev tS : Nat := 42
theorem infoS : (Try.prog.info? 42).map (fun i => (i.zero, i.size, i.bytes)) = some (some (.agg #[.int .i64 0, .bool false, .int .i64 0, .string ⟨#[]⟩]), 4, 40) := by kernel_rfl
theorem kS_KM {w W : World} {base : Nat} {ok : Nat → Prop} (x : S42) (cs : List Value) (h : kS.K w x cs) : kS.M W base ok x cs := by
  rw [k42_open h]; exact k42_mkM _ _ _ _
theorem R_empty' {α : Type} (d : Kd α) (e : Nat) (w : World) (base : Nat) (ok : Nat → Prop) (hb : base ≤ w.heap.size) (hok : ok w.heap.size) : d.R e (w.alloc (.cells #[] e)) base ok (.slice (some ⟨w.heap.size, 0, none⟩) 0 0) [] := by
  refine ⟨fun k hk => ?_, [], ?_, Reps.none _ _⟩
  · have : w.heap.size = k := by simpa [Value.ownBlock] using hk
    subst this
    exact hok
  · have h2 := World.ownsRow_lit (base := base) (e := e) (size := d.sz) w #[] 0 hb (by simp) (by simp)
    simpa using h2

set_option maxHeartbeats 1000000 in
theorem clone_any (A : Option Addr) (l : List S42) (c : Nat) (w : World) (hr : kS.C w A l.length l) (hc : l.length ≤ c) (hb : l.length * 40 ≤ 140737488355328) :
    Calls Try.prog 33 #[.slice A l.length c] w fun e w' => ∃ v, e = .returned v ∧ kS.R tS w' w.heap.size (fun _ => True) v l ∧ Below w.heap.size w w' := by
  have hmax := hr.2.1
  cases A with
  | none =>
    have hl : l = [] := by
      cases l with
      | nil => rfl
      | cons x l => obtain ⟨ad, e, _⟩ := hr.2.2 (by simp); cases e
    subst hl
    have hn := Lib.run_eql_slice_nil (P := Try.prog)
    go_enter Try.func33, Try.ntmps33
    go_wp2
    go_ret
    exact ⟨_, rfl, Kd.R_nil _ _ _ _ _, Below.refl _ _⟩
  | some ad =>
    have hn := Lib.run_eql_slice_nil (P := Try.prog)
    go_enter Try.func33, Try.ntmps33
    go_wp2_with (at_builtin; refine Kd.R_append_rows kS (w0 := w) w.heap.size rfl (.tmp 5) (.tmp 6) 31 42 _ 40 rfl Try.underlying31 infoS rfl (by decide) (by decide) (.slice (some ⟨w.heap.size, 0, none⟩) 0 0) [] l (some ad) l.length c (fun _ => True) (fun _ => False) rfl rfl (R_empty' kS _ _ _ _ (Nat.le_refl _) trivial) (Kd.C_below hr (below_alloc (Below.refl _ _) _)) (fun x cs h => kS_KM x cs h) (fun _ h => h.elim) (fun _ _ => trivial) (below_alloc (Below.refl _ _) _) (by simp) (by simp; omega) ?_; intro v1 w4 hv1 hB7 hg7 hat7; clear hg7 hat7)
    go_ret
    exact ⟨v1, rfl, by simpa using hv1, hB7⟩
end Go.Proofs.Ytghblnldokpceaa.QV
/- slices.Grow of nil, slices.Concat of two rows: a row of one's own. -/
namespace Go.Proofs.Ytghblnldokpceaa.QV
open Go.RowKit Go.Proofs.YtghblnldokpceaaW.PrintWords
set_option linter.unusedVariables false
set_option linter.unusedSimpArgs false

set_option maxHeartbeats 1000000 in
theorem grow_nil (n : Nat) (w : World) (hb : n * 40 ≤ 140737488355328) :
    Calls Try.prog 64 #[.slice none 0 0, .int .i64 n] w fun e w' => ∃ v, e = .returned v ∧ kS.R tS w' w.heap.size (fun _ => True) v [] ∧ Below w.heap.size w w' := by
  by_cases h0 : n = 0
  · subst h0
    go_enter Try.func64, Try.ntmps64
    go_wp2
    go_ret
    exact ⟨_, rfl, Kd.R_nil _ _ _ _ _, Below.refl _ _⟩
  · have hp : 0 < n := by omega
    go_enter Try.func64, Try.ntmps64
    go_wp2_with (at_builtin; refine Kd.R_append_zeros kS (w0 := w) w.heap.size rfl (.tmp 20) (.tmp 21) 31 3 42 _ 40 rfl Try.underlying31 Try.underlying3 infoS rfl (by decide) (by decide) (.slice none 0 0) [] z42 (n : Int) (fun _ => True) rfl rfl (k42_mkM _ _ _ z42) (fun _ _ => trivial) (Kd.R_nil _ _ _ _ _) (by omega) (Below.refl _ _) (Nat.le_refl _) (by simp; omega) ?_; intro v1 w1 hv1 hb1 hg1 hat1; obtain ⟨g1, cap1, rfl, hg1b, hg1l, cells1, hcells1⟩ := Kd.R_form hv1 (by simp; omega); clear hg1 hat1)
    go_ret
    exact ⟨_, rfl, by simpa using Kd.R_take hv1 (Nat.zero_le _), hb1⟩

set_option maxHeartbeats 2000000 in
/-- The two rows, one behind the other. -/
theorem concat2 (A : Option Addr) (a : List S42) (ca : Nat) (B : Option Addr) (b : List S42) (cb : Nat) (g : Nat) (w : World) (hg : w.heap[g]? = some (.cells #[.slice A a.length ca, .slice B b.length cb] 31 (0, 0)))
    (hA : kS.C w A a.length a) (hB : kS.C w B b.length b) (hb : (a.length + b.length) * 40 ≤ 140737488355328) :
    Calls Try.prog 35 #[.slice (some ⟨g, 0, none⟩) 2 2] w fun e w' => ∃ v, e = .returned v ∧ kS.R tS w' w.heap.size (fun _ => True) v (a ++ b) ∧ Below w.heap.size w w' := by
  have c0 : w.cell? ⟨g, 0, none⟩ = some (.slice A a.length ca) := blk_cell hg 0
  have c1 : w.cell? ⟨g, 1, none⟩ = some (.slice B b.length cb) := blk_cell hg 1
  have hab : (a.length : Int) + (b.length : Int) = ((a.length + b.length : Nat) : Int) := by omega
  go_enter Try.func35, Try.ntmps35
  go_wp2_with fail
  have HAB := Lib.hid hab
  clear hab
  go_loop [3, 11] (fun s i => ∃ k : Nat, k ≤ 2 ∧ i = .int .i64 k ∧ s = .int .i64 (if k = 0 then 0 else if k = 1 then (a.length : Int) else ((a.length + b.length : Nat) : Int))) (fun _ i => 2 - (intOf i).toNat)
  case atStart => exact ⟨0, by omega, rfl, rfl⟩
  case round =>
    obtain ⟨k, hk, rfl, rfl⟩ := hrel
    rcases (by omega : k = 0 ∨ k = 1 ∨ k = 2) with rfl | rfl | rfl
    · go_wp2
      go_round
      case rel => exact ⟨1, by omega, by go_num, by simp⟩
      case measure => simp [intOf]
    · go_wp2
      go_round
      case rel => exact ⟨2, by omega, by go_num, by simp⟩
      case measure => simp [intOf]
    · simp only [show ¬ (2 = 0) from by omega, show ¬ (2 = 1) from by omega, if_false]
      go_wp2_with fail
      refine (grow_nil (a.length + b.length) w hb).mono ?_
      rintro e w1 ⟨v0, rfl, hv0, hb0⟩
      have c0 : w1.cell? ⟨g, 0, none⟩ = some (.slice A a.length ca) := blk_cell (blk_below hg hb0) 0
      have c1 : w1.cell? ⟨g, 1, none⟩ = some (.slice B b.length cb) := blk_cell (blk_below hg hb0) 1
      go_wp2_with fail
      go_loopw [6, 27] (fun v i wr => ∃ k : Nat, k ≤ 2 ∧ i = .int .i64 k ∧ kS.R tS wr w.heap.size (fun _ => True) v (if k = 0 then [] else if k = 1 then a else a ++ b) ∧ Below w.heap.size w wr) (fun _ i _ => 2 - (intOf i).toNat)
      case atStart => exact ⟨0, by omega, rfl, by simpa using hv0, hb0⟩
      case round =>
        obtain ⟨k, hk, rfl, hv, hB2⟩ := hrel
        have d0 : wr.cell? ⟨g, 0, none⟩ = some (.slice A a.length ca) := blk_cell (blk_below hg hB2) 0
        have d1 : wr.cell? ⟨g, 1, none⟩ = some (.slice B b.length cb) := blk_cell (blk_below hg hB2) 1
        rcases (by omega : k = 0 ∨ k = 1 ∨ k = 2) with rfl | rfl | rfl
        · simp only [if_true] at hv
          go_wp2_with (at_builtin; refine Kd.R_append_rows kS (w0 := w) w.heap.size rfl (.tmp 31) (.tmp 32) 31 42 _ 40 rfl Try.underlying31 infoS rfl (by decide) (by decide) u6 [] a A a.length ca (fun _ => True) (fun _ => False) rfl rfl hv (Kd.C_below hA hB2) (fun x cs h => kS_KM x cs h) (fun _ h => h.elim) (fun _ _ => trivial) hB2 hB2.size (by first | omega | (simp; omega)) ?_; intro v1 w4 hv1 hB7 hg7 hat7; clear hg7 hat7)
          go_roundw
          case rel => exact ⟨1, by omega, by go_num, by simpa using hv1, hB7⟩
          case measure => simp [intOf]
        · simp only [show ¬ (1 = 0) from by omega, if_false, if_true] at hv
          go_wp2_with (at_builtin; refine Kd.R_append_rows kS (w0 := w) w.heap.size rfl (.tmp 31) (.tmp 32) 31 42 _ 40 rfl Try.underlying31 infoS rfl (by decide) (by decide) u6 a b B b.length cb (fun _ => True) (fun _ => False) rfl rfl hv (Kd.C_below hB hB2) (fun x cs h => kS_KM x cs h) (fun _ h => h.elim) (fun _ _ => trivial) hB2 hB2.size (by first | omega | (simp; omega)) ?_; intro v1 w4 hv1 hB7 hg7 hat7; clear hg7 hat7)
          go_roundw
          case rel => exact ⟨2, by omega, by go_num, by simpa using hv1, hB7⟩
          case measure => simp [intOf]
        · simp only [show ¬ (2 = 0) from by omega, show ¬ (2 = 1) from by omega, if_false] at hv
          go_wp2
          go_ret
          exact ⟨_, rfl, hv, hB2⟩
end Go.Proofs.Ytghblnldokpceaa.QV
/- A range over a function, by separation: what an iterator gives (SeqOf), and the law of the statement that ranges over it. M: the blocks that are the consumer's; N: those of what is handed out, if they are new. -/
namespace Go.Proofs.Ytghblnldokpceaa.Seq
open Go Go.RowKit
set_option linter.unusedVariables false

/-- B is A but for the blocks of M, and new ones. -/
structure Kpt (M : Nat → Prop) (A B : World) : Prop where
  os : B.os = A.os
  tape : B.tape = A.tape
  output : B.output = A.output
  size : A.heap.size ≤ B.heap.size
  block : ∀ i, i < A.heap.size → ¬ M i → B.heap[i]? = A.heap[i]?
theorem Kpt.refl (M : Nat → Prop) (A : World) : Kpt M A A := ⟨rfl, rfl, rfl, Nat.le_refl _, fun _ _ _ => rfl⟩
theorem Kpt.mono {M M' : Nat → Prop} {A B : World} (h : Kpt M A B) (hm : ∀ i, i < A.heap.size → M i → M' i) : Kpt M' A B := ⟨h.os, h.tape, h.output, h.size, fun i hi hn => h.block i hi (fun k => hn (hm i hi k))⟩
theorem Kpt.trans {M M1 M2 : Nat → Prop} {A B C : World} (h : Kpt M1 A B) (k : Kpt M2 B C) (hm : ∀ i, i < A.heap.size → M1 i ∨ M2 i → M i) : Kpt M A C :=
  ⟨k.os.trans h.os, k.tape.trans h.tape, k.output.trans h.output, Nat.le_trans h.size k.size, fun i hi hn => (k.block i (Nat.lt_of_lt_of_le hi h.size) (fun z => hn (hm i hi (.inr z)))).trans (h.block i hi (fun z => hn (hm i hi (.inl z))))⟩
theorem Kpt.of_below {b : Nat} {A B : World} (h : Below b A B) : Kpt (fun i => b ≤ i) A B := ⟨h.os, h.tape, h.output, h.size, fun i _ hn => h.block i (by omega)⟩
theorem Kpt.of_new {A B : World} (M : Nat → Prop) (h : Below A.heap.size A B) : Kpt M A B := ⟨h.os, h.tape, h.output, h.size, fun i hi _ => h.block i hi⟩
theorem Kpt.below {M : Nat → Prop} {b : Nat} {A B : World} (h : Kpt M A B) (hb : b ≤ A.heap.size) (hm : ∀ i, i < A.heap.size → M i → b ≤ i) : Below b A B := ⟨h.os, h.tape, h.output, h.size, fun i hi => h.block i (by omega) (fun k => by have := hm i (by omega) k; omega)⟩
theorem Kpt.alloc (M : Nat → Prop) (A : World) (o : Obj) : Kpt M A (A.alloc o) := .of_new M ((Below.refl _ A).alloc (Nat.le_refl _) o)
theorem Kpt.drew (M : Nat → Prop) (A : World) : Kpt M A A.drew := ⟨rfl, rfl, rfl, Nat.le_refl _, fun _ _ _ => rfl⟩
theorem Kpt.grown {A B : World} {row : Option Nat} (h : A.grownBy B row) : Kpt (fun i => some i = row) A B := ⟨h.os, h.tape, h.output, h.size, fun i hi hn => h.block i hi hn⟩
theorem Kpt.putObj (A : World) (l : Nat) (o : Obj) : Kpt (fun i => i = l) A (A.putObj l o) := (Kpt.grown (grownBy_putObj' A l o)).mono (fun i _ h => by simpa using h)
theorem Kpt.setCell (A : World) (p : Addr) (v : Value) : Kpt (fun i => i = p.block) A (A.setCell p v) := ⟨rfl, rfl, rfl, by simp, fun i _ hn => Below.heap_setCell _ _ _ i (fun e => hn e)⟩
theorem Kpt.at {M : Nat → Prop} {A B : World} (h : Kpt M A B) {i : Nat} {o : Obj} (hi : A.heap[i]? = some o) (hn : ¬ M i) : B.heap[i]? = some o := (h.block i (Array.getElem?_eq_some_iff.1 hi).1 hn).trans hi

/-- WHAT AN ITERATOR GIVES: whatever the consumer keeps in its own blocks (J, between two rounds; Jx, once it has said 'no more'), if each round takes an element on, the whole list has come, or a beginning of it, at whose last element the consumer has said 'no more'; the iterator has written only what it made itself. -/
def SeqOf {α : Type} (P : Program) (g : Nat) (lb : Array Value) (Rd : World → (Nat → Prop) → α → Array Value → Prop) (xs : List α) (w : World) : Prop :=
  ∀ (l : Nat) (J Jx : List α → (Nat → Prop) → World → Prop) (W : World) (M : Nat → Prop),
    Below w.heap.size w W → (∀ i, M i → w.heap.size ≤ i ∧ i < W.heap.size) →
    (∀ pre M A B, J pre M A → Kpt (fun i => W.heap.size ≤ i ∧ ¬ M i) A B → J pre M B) →
    (∀ pre M A B, Jx pre M A → Kpt (fun i => W.heap.size ≤ i ∧ ¬ M i) A B → Jx pre M B) →
    (∀ pre x vs N A M, J pre M A → (pre ++ [x]) <+: xs → Rd A N x vs → (∀ i, M i → w.heap.size ≤ i ∧ i < A.heap.size) → (∀ i, N i → W.heap.size ≤ i ∧ i < A.heap.size ∧ ¬ M i) → W.heap.size ≤ A.heap.size →
      YieldAt Fence.wide 0 P l vs A fun e B => ∃ M', (∀ i, M' i → (M i ∨ N i ∨ A.heap.size ≤ i) ∧ i < B.heap.size) ∧ Kpt (fun i => M i ∨ N i) A B ∧
        ((e = .returned (.bool true) ∧ J (pre ++ [x]) M' B) ∨ (e = .returned (.bool false) ∧ Jx (pre ++ [x]) M' B))) →
    J [] M W →
    Calls P g (#[.func (.yield l) #[] #[]] ++ lb) W fun e W' => (∃ v, e = .returned v) ∧ ∃ M', (∀ i, M' i → (M i ∨ W.heap.size ≤ i) ∧ i < W'.heap.size) ∧ Kpt M W W' ∧ (J xs M' W' ∨ ∃ pre, pre <+: xs ∧ Jx pre M' W')

theorem SeqOf.later {α : Type} {P : Program} {g : Nat} {lb : Array Value} {Rd : World → (Nat → Prop) → α → Array Value → Prop} {xs : List α} {w w' : World} (h : SeqOf P g lb Rd xs w) (hb : Below w.heap.size w w') : SeqOf P g lb Rd xs w' := by
  intro l J Jx W M hW hM hJ hJx hY h0
  refine (h l (fun pre M A => J pre M A ∧ ∀ i, M i → w'.heap.size ≤ i) Jx W M (hb.trans (hW.mono hb.size)) (fun i hi => ⟨Nat.le_trans hb.size (hM i hi).1, (hM i hi).2⟩)
    (fun pre M A B hj hk => ⟨hJ _ _ _ _ hj.1 hk, hj.2⟩) hJx ?_ ⟨h0, fun i hi => (hM i hi).1⟩).mono ?_
  · rintro pre x vs N A M ⟨hj, hm⟩ hpre hRd hMA hN hWA
    have hs : w'.heap.size ≤ W.heap.size := hW.size
    refine (hY pre x vs N A M hj hpre hRd (fun i hi => ⟨hm i hi, (hMA i hi).2⟩) hN hWA).mono ?_
    rintro e B ⟨M', h1, h2, h3⟩
    refine ⟨M', h1, h2, ?_⟩
    rcases h3 with ⟨he, h3⟩ | h3
    · refine .inl ⟨he, h3, fun i hi => ?_⟩
      rcases (h1 i hi).1 with k | k | k
      · exact hm i k
      · have := (hN i k).1; omega
      · omega
    · exact .inr h3
  · rintro e W' ⟨he, M', h1, h2, h3⟩
    refine ⟨he, M', h1, h2, ?_⟩
    rcases h3 with ⟨h3, _⟩ | h3
    · exact .inl h3
    · exact .inr h3

/-- How a round's body may be left. -/
def PostS {α : Type} (M N : Nat → Prop) (I : List α → (Nat → Prop) → World → Prop) (Ix : Code → List α → (Nat → Prop) → World → Prop) (xs : List α) (A : World) : Exit → Act → World → Prop
  | .normal, _, B => ∃ M', (∀ i, M' i → (M i ∨ N i ∨ A.heap.size ≤ i) ∧ i < B.heap.size) ∧ Kpt (fun i => M i ∨ N i) A B ∧ I xs M' B
  | .ret, _, B => ∃ M', (∀ i, M' i → (M i ∨ N i ∨ A.heap.size ≤ i) ∧ i < B.heap.size) ∧ Kpt (fun i => M i ∨ N i) A B ∧ Ix .ret xs M' B
  | .exit id, _, B => ∃ M', (∀ i, M' i → (M i ∨ N i ∨ A.heap.size ≤ i) ∧ i < B.heap.size) ∧ Kpt (fun i => M i ∨ N i) A B ∧ Ix (.exit id) xs M' B
  | .goto t, _, B => ∃ M', (∀ i, M' i → (M i ∨ N i ∨ A.heap.size ≤ i) ∧ i < B.heap.size) ∧ Kpt (fun i => M i ∨ N i) A B ∧ Ix (.goto t) xs M' B
  | .panic _, _, _ => False
  | .outgrown, _, _ => False

theorem wpIn_range {α : Type} {P : Program} {n : Nat} {g : Operand} {ps : Array Tmp} {assign body : Code} {Q : Exit → Act → World → Prop} {a : Act} {w : World}
    {gf : Nat} {lb : Array Value} (hg : a.eval g = .func (.func gf) #[] lb) (eg : ∀ args w, (callFunc gf args).run P w = .ok (.enter gf args) w)
    {Rd : World → (Nat → Prop) → α → Array Value → Prop} {xs : List α} {w0 : World} (hseq : SeqOf P gf lb Rd xs w0) (hb0 : Below w0.heap.size w0 w)
    (hps : ∀ A N x vs, Rd A N x vs → vs.size = ps.size)
    (hRd : ∀ A B N x vs, Rd A N x vs → Kpt (fun i => w0.heap.size ≤ i ∧ ¬ N i) A B → Rd B N x vs)
    (I : List α → (Nat → Prop) → World → Prop) (Ix : Code → List α → (Nat → Prop) → World → Prop)
    (hI : ∀ pre M A B, I pre M A → Kpt (fun i => w.heap.size ≤ i ∧ ¬ M i) A B → I pre M B)
    (hIx : ∀ c pre M A B, Ix c pre M A → Kpt (fun i => w.heap.size ≤ i ∧ ¬ M i) A B → Ix c pre M B)
    (M : Nat → Prop) (hM : ∀ i, M i → w0.heap.size ≤ i ∧ i < w.heap.size) (h0 : I [] M w)
    (Ax : α → Array Value → Act → (Nat → Prop) → World → Prop) (hAx : ∀ x vs a₁ M A B, Ax x vs a₁ M A → Kpt (fun i => w.heap.size ≤ i ∧ ¬ M i) A B → Ax x vs a₁ M B)
    (hassign : ∀ l pre x vs N A M, I pre M A → (pre ++ [x]) <+: xs → Rd A N x vs → (∀ i, M i → w0.heap.size ≤ i ∧ i < A.heap.size) → (∀ i, N i → w.heap.size ≤ i ∧ i < A.heap.size ∧ ¬ M i) →
      assign.wpIn (Fence.wide.inRound l) 0 P (Exit.then (fun a₁ B => ∃ M', (∀ i, M' i → (M i ∨ A.heap.size ≤ i) ∧ i < B.heap.size) ∧ Kpt M A B ∧ I pre M' B ∧ Ax x vs a₁ M' B) (fun _ _ _ => False))
        { tmps := (ps.zip vs).foldl (fun t (p, v) => t.setIfInBounds p v) a.tmps, defers := [] } A)
    (hbody : ∀ l pre x vs N A M a₁, I pre M A → (pre ++ [x]) <+: xs → Rd A N x vs → Ax x vs a₁ M A → (∀ i, M i → w0.heap.size ≤ i ∧ i < A.heap.size) → (∀ i, N i → w.heap.size ≤ i ∧ i < A.heap.size ∧ ¬ M i) →
      body.wpIn (Fence.wide.inRound l) 0 P (PostS M N I Ix (pre ++ [x]) A) a₁ A)
    (hdone : ∀ D W M', I xs M' W → Kpt M w W → (∀ i, M' i → (M i ∨ w.heap.size ≤ i) ∧ i < W.heap.size) → W.heap[D]? = some (.deferred (some [])) → w.heap.size ≤ D → ¬ M' D →
      Q .normal { a with defers := { target := .collected D, args := #[] } :: a.defers } W)
    (hstop : ∀ D c pre W M', pre <+: xs → Ix c pre M' W → Kpt M w W → (∀ i, M' i → (M i ∨ w.heap.size ≤ i) ∧ i < W.heap.size) → W.heap[D]? = some (.deferred (some [])) → w.heap.size ≤ D → ¬ M' D →
      c.wpIn Fence.wide n P Q { a with defers := { target := .collected D, args := #[] } :: a.defers } W) :
    (Code.rangeFunc g ps assign body).wpIn Fence.wide n P Q a w := by
  refine wpIn_rangeFunc ?_
  intro fn hfn
  obtain ⟨rec, hrec⟩ : ∃ rec : LoopState → Option Code → Loop, rec = fun st pe => { state := st, pending := pe, fn, tmps := a.tmps, params := ps, assign, body, defers := w.heap.size } := ⟨_, rfl⟩
  obtain ⟨W1, hW1⟩ : ∃ W1, (w.alloc (.deferred (some []))).alloc (.loop (rec .ready none)) = W1 := ⟨_, rfl⟩
  have hL1 : W1.heap[w.heap.size + 1]? = some (.loop (rec .ready none)) := by
    rw [← hW1]; have := World.alloc_heap_new (w.alloc (.deferred (some []))) (.loop (rec .ready none)); rwa [World.size_alloc] at this
  have hK1 : W1.heap[w.heap.size]? = some (.deferred (some [])) := by
    rw [← hW1]; exact (Below.heap_alloc _ _ _ (by simp)).trans (World.alloc_heap_new w _)
  have hB1 : Below w.heap.size w W1 := by rw [← hW1]; exact ((Below.refl _ w).alloc (Nat.le_refl _) _).alloc (by simp) _
  have hs1 : W1.heap.size = w.heap.size + 2 := by rw [← hW1]; simp
  have hI1 : I [] M W1 := hI _ _ _ _ h0 (.of_new _ hB1)
  have hb1 : Below w0.heap.size w0 W1 := hb0.trans (hB1.mono hb0.size)
  have hw0 : w0.heap.size ≤ w.heap.size := hb0.size
  refine ⟨w.heap.size + 1, [{ target := .collected w.heap.size, args := #[] }], W1, { target := .fn (.func gf) lb, args := #[.func (.yield (w.heap.size + 1)) #[] #[]] }, W1, gf,
    #[.func (.yield (w.heap.size + 1)) #[] #[]] ++ lb, W1, ?_, ?_, ?_, ?_, (fun h => by cases h), ?_⟩
  · rw [← hW1, hrec]; exact run_enterLoop_outer _ _ _ _ _
  · simp only [resolve, hg]
    simp [go_sem]
  · intro f' hf'; trivial
  · simp [invoke, go_sem, eg]
  · obtain ⟨J, hJd⟩ : ∃ J : (LoopState → Option Code → Prop) → ((List α) → (Nat → Prop) → World → Option Code → Prop) → List α → (Nat → Prop) → World → Prop,
        J = fun S X pre Mh A => ∃ M st pe, S st pe ∧ (∀ i, Mh i ↔ (M i ∨ i = w.heap.size + 1 ∨ i = w.heap.size)) ∧ (∀ i, M i → i ≠ w.heap.size + 1 ∧ i ≠ w.heap.size) ∧ X pre M A pe ∧
          A.heap[w.heap.size + 1]? = some (.loop (rec st pe)) ∧ A.heap[w.heap.size]? = some (.deferred (some [])) := ⟨_, rfl⟩
    have hJst : ∀ S X pre Mh A B, (∀ pre M A B pe, X pre M A pe → Kpt (fun i => w.heap.size ≤ i ∧ ¬ M i) A B → X pre M B pe) → J S X pre Mh A → Kpt (fun i => W1.heap.size ≤ i ∧ ¬ Mh i) A B → J S X pre Mh B := by
      intro S X pre Mh A B hX hj hk
      rw [hJd] at hj ⊢
      obtain ⟨M, st, pe, hS, hM1, hM2, hx, hl, hd⟩ := hj
      exact ⟨M, st, pe, hS, hM1, hM2, hX _ _ _ _ _ hx (hk.mono (fun i _ h => ⟨by omega, fun k => h.2 ((hM1 i).2 (.inl k))⟩)), hk.at hl (fun h => h.2 ((hM1 _).2 (.inr (.inl rfl)))), hk.at hd (fun h => h.2 ((hM1 _).2 (.inr (.inr rfl))))⟩
    refine ((callsIn_wide (n := n - 1)).2 (hseq (w.heap.size + 1) (J (fun st pe => st = .ready ∧ pe = none) (fun pre M A _ => I pre M A)) (J (fun st pe => st = .done ∧ pe.isSome = true) (fun pre M A pe => ∃ c, pe = some c ∧ Ix c pre M A)) W1 (fun i => M i ∨ i = w.heap.size + 1 ∨ i = w.heap.size) hb1 ?_ ?_ ?_ ?_ ?_)).mono ?_
    · intro i hi
      rcases hi with h | h | h
      · have := hM i h; omega
      · omega
      · omega
    · intro pre Mh A B hj hk
      exact hJst _ _ _ _ _ _ (fun pre M A B pe h k => hI _ _ _ _ h k) hj hk
    · intro pre Mh A B hj hk
      exact hJst _ _ _ _ _ _ (fun pre M A B pe h k => by obtain ⟨c, e, h⟩ := h; exact ⟨c, e, hIx _ _ _ _ _ h k⟩) hj hk
    · -- ONE ROUND
      intro pre x vs N A Mh hj hpre hrd hMh hN hWA
      rw [hJd] at hj
      obtain ⟨M2, st, pe, ⟨rfl, rfl⟩, hM1, hM2, hi, hl, hd⟩ := hj
      have hMA : ∀ i, M2 i → w0.heap.size ≤ i ∧ i < A.heap.size := fun i h => hMh i ((hM1 i).2 (.inl h))
      have hNA : ∀ i, N i → w.heap.size ≤ i ∧ i < A.heap.size ∧ ¬ M2 i := fun i h => by
        obtain ⟨h1, h2, h3⟩ := hN i h
        exact ⟨by omega, h2, fun k => h3 ((hM1 i).2 (.inl k))⟩
      have hNl : ∀ i, N i → i ≠ w.heap.size + 1 ∧ i ≠ w.heap.size := fun i h => ⟨fun e => (hN i h).2.2 ((hM1 i).2 (.inr (.inl e))), fun e => (hN i h).2.2 ((hM1 i).2 (.inr (.inr e)))⟩
      have hlA : w.heap.size + 1 < A.heap.size := (Array.getElem?_eq_some_iff.1 hl).1
      have hy := run_yield (P := P) (args := vs) hl (by rw [hrec]; exact hps _ _ _ _ hrd)
      rw [hrec] at hy
      refine ⟨fn, _, assign, body, hy, roundIn_of_wpIn hfn (wpIn_mono (hassign _ pre x vs N A M2 hi hpre hrd hMA hNA) ?_)⟩
      rintro e a₁ B hp
      cases e with
      | exit id => exact hp.elim
      | goto t => exact hp.elim
      | ret => exact hp.elim
      | panic c => exact hp.elim
      | outgrown => exact hp.elim
      | normal =>
        obtain ⟨M3, h31, h32, hi3, hax⟩ := hp
        have hl3 : B.heap[w.heap.size + 1]? = some (.loop (rec .ready none)) := h32.at hl (fun h => (hM2 _ h).1 rfl)
        have hd3 : B.heap[w.heap.size]? = some (.deferred (some [])) := h32.at hd (fun h => (hM2 _ h).2 rfl)
        have hM3 : ∀ i, M3 i → i ≠ w.heap.size + 1 ∧ i ≠ w.heap.size := fun i h => by
          rcases (h31 i h).1 with k | k
          · exact hM2 i k
          · omega
        have hNM3 : ∀ i, N i → ¬ M3 i := fun i h k => by
          rcases (h31 i k).1 with z | z
          · exact (hNA i h).2.2 z
          · have := (hNA i h).2.1; omega
        refine ⟨_, run_beginRound hl3 (by rw [hrec]), ?_⟩
        obtain ⟨B2, hB2⟩ : ∃ B2, B.putObj (w.heap.size + 1) (.loop { rec .ready none with state := .busy }) = B2 := ⟨_, rfl⟩
        rw [hB2]
        have hk2 : Kpt (fun i => i = w.heap.size + 1) B B2 := by rw [← hB2]; exact .putObj _ _ _
        have hl2 : B2.heap[w.heap.size + 1]? = some (.loop { rec .ready none with state := .busy }) := by rw [← hB2]; exact World.putObj_heap_same (Array.getElem?_eq_some_iff.1 hl3).1
        have hd2 : B2.heap[w.heap.size]? = some (.deferred (some [])) := hk2.at hd3 (by omega)
        have hsz2 : B2.heap.size = B.heap.size := by rw [← hB2]; simp [World.putObj]
        have hk2M : Kpt (fun i => w.heap.size ≤ i ∧ ¬ M3 i) B B2 := hk2.mono (fun i _ e => ⟨by omega, fun k => (hM3 i k).1 e⟩)
        have hrd2 : Rd B2 N x vs := hRd _ _ _ _ _ hrd (h32.trans hk2 (fun i hi h => by
          rcases h with h | h
          · exact ⟨(hMA i h).1, fun k => (hNA i k).2.2 h⟩
          · exact ⟨by omega, fun k => (hNl i k).1 h⟩))
        have hsAB := h32.size
        refine wpIn_mono (hbody _ pre x vs N B2 M3 a₁ (hI _ _ _ _ hi3 hk2M) hpre hrd2 (hAx _ _ _ _ _ _ hax hk2M) ?_ ?_) ?_
        · intro i h
          have h1 := (h31 i h).2
          rcases (h31 i h).1 with k | k
          · have := hMA i k; omega
          · omega
        · intro i h
          have := hNA i h
          exact ⟨this.1, by omega, hNM3 i h⟩
        have fin : ∀ (jump : Option Code) (B3 : World) (M4 : Nat → Prop), Kpt (fun i => M3 i ∨ N i) B2 B3 → (∀ i, M4 i → (M3 i ∨ N i ∨ B2.heap.size ≤ i) ∧ i < B3.heap.size) →
            (Instr.endRound (w.heap.size + 1) jump).run P B3 = .ok (.bool jump.isNone) (B3.putObj (w.heap.size + 1) (.loop (rec (if jump.isNone then .ready else .done) jump))) ∧
            (B3.putObj (w.heap.size + 1) (.loop (rec (if jump.isNone then .ready else .done) jump))).heap[w.heap.size + 1]? = some (.loop (rec (if jump.isNone then .ready else .done) jump)) ∧
            (B3.putObj (w.heap.size + 1) (.loop (rec (if jump.isNone then .ready else .done) jump))).heap[w.heap.size]? = some (.deferred (some [])) ∧
            Kpt (fun i => Mh i ∨ N i) A (B3.putObj (w.heap.size + 1) (.loop (rec (if jump.isNone then .ready else .done) jump))) ∧
            (∀ i, (M4 i ∨ i = w.heap.size + 1 ∨ i = w.heap.size) → (Mh i ∨ N i ∨ A.heap.size ≤ i) ∧ i < (B3.putObj (w.heap.size + 1) (.loop (rec (if jump.isNone then .ready else .done) jump))).heap.size) ∧
            (∀ i, M4 i → i ≠ w.heap.size + 1 ∧ i ≠ w.heap.size) ∧
            Kpt (fun i => w.heap.size ≤ i ∧ ¬ M4 i) B3 (B3.putObj (w.heap.size + 1) (.loop (rec (if jump.isNone then .ready else .done) jump))) := by
          intro jump B3 M4 hk3 h4
          have hl4 : B3.heap[w.heap.size + 1]? = some (.loop { rec .ready none with state := .busy }) := hk3.at hl2 (fun h => by rcases h with h | h; exact (hM3 _ h).1 rfl; exact (hNl _ h).1 rfl)
          have hd4 : B3.heap[w.heap.size]? = some (.deferred (some [])) := hk3.at hd2 (fun h => by rcases h with h | h; exact (hM3 _ h).2 rfl; exact (hNl _ h).2 rfl)
          have hr := run_endRound (P := P) jump hl4
          have hlt := (Array.getElem?_eq_some_iff.1 hl4).1
          have hsz3 := hk3.size
          have hM4 : ∀ i, M4 i → i ≠ w.heap.size + 1 ∧ i ≠ w.heap.size := fun i h => by
            rcases (h4 i h).1 with k | k | k
            · exact hM3 i k
            · exact hNl i k
            · omega
          have hpo : Kpt (fun i => i = w.heap.size + 1) B3 (B3.putObj (w.heap.size + 1) (.loop (rec (if jump.isNone then .ready else .done) jump))) := .putObj _ _ _
          refine ⟨by rw [hrec] at hr ⊢; exact hr, World.putObj_heap_same hlt, (World.putObj_heap_other (by omega)).trans hd4, ?_, ?_, hM4, hpo.mono (fun i _ e => ⟨by omega, fun k => (hM4 i k).1 e⟩)⟩
          · refine Kpt.trans (M1 := fun i => Mh i ∨ N i) ?_ (hpo.mono (M' := fun i => i = w.heap.size + 1) (fun i _ e => e)) (fun i hi h => by
              rcases h with h | h
              · exact h
              · exact .inl ((hM1 i).2 (.inr (.inl h))))
            refine Kpt.trans (M1 := fun i => Mh i ∨ N i) ?_ hk3 (fun i hi h => by
              rcases h with h | h | h
              · exact h
              · rcases (h31 i h).1 with k | k
                · exact .inl ((hM1 i).2 (.inl k))
                · omega
              · exact .inr h)
            exact h32.trans hk2 (fun i hi h => by
              rcases h with h | h
              · exact .inl ((hM1 i).2 (.inl h))
              · exact .inl ((hM1 i).2 (.inr (.inl h))))
          · intro i h
            have hps : (B3.putObj (w.heap.size + 1) (.loop (rec (if jump.isNone then .ready else .done) jump))).heap.size = B3.heap.size := by simp [World.putObj]
            rw [hps]
            rcases h with h | h | h
            · refine ⟨?_, (h4 i h).2⟩
              rcases (h4 i h).1 with k | k | k
              · rcases (h31 i k).1 with z | z
                · exact .inl ((hM1 i).2 (.inl z))
                · exact .inr (.inr z)
              · exact .inr (.inl k)
              · exact .inr (.inr (by omega))
            · exact ⟨.inl ((hM1 i).2 (.inr (.inl h))), by omega⟩
            · exact ⟨.inl ((hM1 i).2 (.inr (.inr h))), by omega⟩
        rintro e a3 B3 hp
        cases e with
        | normal =>
          obtain ⟨M4, h41, h42, hi4⟩ := hp
          obtain ⟨f1, f2, f3, f4, f5, f6, f7⟩ := fin none B3 M4 h42 h41
          refine ⟨_, _, f1, _, f5, f4, .inl ⟨rfl, ?_⟩⟩
          rw [hJd]
          exact ⟨M4, _, _, ⟨rfl, rfl⟩, fun _ => Iff.rfl, f6, hI _ _ _ _ hi4 f7, f2, f3⟩
        | ret =>
          obtain ⟨M4, h41, h42, hi4⟩ := hp
          obtain ⟨f1, f2, f3, f4, f5, f6, f7⟩ := fin (some .ret) B3 M4 h42 h41
          refine ⟨_, _, f1, _, f5, f4, .inr ⟨rfl, ?_⟩⟩
          rw [hJd]
          exact ⟨M4, _, _, ⟨rfl, rfl⟩, fun _ => Iff.rfl, f6, ⟨_, rfl, hIx _ _ _ _ _ hi4 f7⟩, f2, f3⟩
        | exit id =>
          obtain ⟨M4, h41, h42, hi4⟩ := hp
          obtain ⟨f1, f2, f3, f4, f5, f6, f7⟩ := fin (some (.exit id)) B3 M4 h42 h41
          refine ⟨_, _, f1, _, f5, f4, .inr ⟨rfl, ?_⟩⟩
          rw [hJd]
          exact ⟨M4, _, _, ⟨rfl, rfl⟩, fun _ => Iff.rfl, f6, ⟨_, rfl, hIx _ _ _ _ _ hi4 f7⟩, f2, f3⟩
        | goto t =>
          obtain ⟨M4, h41, h42, hi4⟩ := hp
          obtain ⟨f1, f2, f3, f4, f5, f6, f7⟩ := fin (some (.goto t)) B3 M4 h42 h41
          refine ⟨_, _, f1, _, f5, f4, .inr ⟨rfl, ?_⟩⟩
          rw [hJd]
          exact ⟨M4, _, _, ⟨rfl, rfl⟩, fun _ => Iff.rfl, f6, ⟨_, rfl, hIx _ _ _ _ _ hi4 f7⟩, f2, f3⟩
        | panic ch => exact hp.elim
        | outgrown => exact hp.elim
    · rw [hJd]
      exact ⟨M, _, _, ⟨rfl, rfl⟩, fun _ => Iff.rfl, fun i h => by have := hM i h; omega, hI1, hL1, hK1⟩
    · -- BEHIND THE ITERATOR
      rintro e W2 ⟨⟨v, rfl⟩, Mh, hm1, hk, hj⟩
      have ends : ∀ (M4 : Nat → Prop) (st : LoopState) (pe : Option Code), st ≠ .busy → (∀ i, Mh i ↔ (M4 i ∨ i = w.heap.size + 1 ∨ i = w.heap.size)) → (∀ i, M4 i → i ≠ w.heap.size + 1 ∧ i ≠ w.heap.size) → W2.heap[w.heap.size + 1]? = some (.loop (rec st pe)) → W2.heap[w.heap.size]? = some (.deferred (some [])) →
          (Instr.endLoop (w.heap.size + 1)).run P W2 = .ok pe (W2.putObj (w.heap.size + 1) (.loop (rec .exhausted pe))) ∧
          Kpt (fun i => w.heap.size ≤ i ∧ ¬ M4 i) W2 (W2.putObj (w.heap.size + 1) (.loop (rec .exhausted pe))) ∧ Kpt M w (W2.putObj (w.heap.size + 1) (.loop (rec .exhausted pe))) ∧
          (∀ i, M4 i → (M i ∨ w.heap.size ≤ i) ∧ i < (W2.putObj (w.heap.size + 1) (.loop (rec .exhausted pe))).heap.size) ∧ (W2.putObj (w.heap.size + 1) (.loop (rec .exhausted pe))).heap[w.heap.size]? = some (.deferred (some [])) := by
        intro M4 st pe hst h1 h2 hl hd
        have hr := run_endLoop (P := P) hl (by rw [hrec]; exact hst)
        have hpo : Kpt (fun i => i = w.heap.size + 1) W2 (W2.putObj (w.heap.size + 1) (.loop (rec .exhausted pe))) := .putObj _ _ _
        have hps : (W2.putObj (w.heap.size + 1) (.loop (rec .exhausted pe))).heap.size = W2.heap.size := by simp [World.putObj]
        refine ⟨by rw [hrec] at hr ⊢; exact hr, hpo.mono (fun i _ e => ⟨by omega, fun k => (h2 i k).1 e⟩), ?_, fun i h => ?_, (World.putObj_heap_other (by omega)).trans hd⟩
        · refine Kpt.trans (M1 := M) ((Kpt.of_new M hB1).trans hk (fun i hi h => ?_)) hpo (fun i hi h => ?_)
          · rcases h with h | h | h | h
            · exact h
            · exact h
            · omega
            · omega
          · rcases h with h | h
            · exact h
            · omega
        · rw [hps]
          have := hm1 i ((h1 i).2 (.inl h))
          refine ⟨?_, this.2⟩
          rcases this.1 with (k | k | k) | k
          · exact .inl k
          · exact .inr (by omega)
          · exact .inr (by omega)
          · exact .inr (by omega)
      rcases hj with hj | ⟨pre, hpre, hj⟩
      · rw [hJd] at hj
        obtain ⟨M4, st, pe, ⟨rfl, rfl⟩, h1, h2, hi, hl, hd⟩ := hj
        obtain ⟨e1, e2, e3, e4, e5⟩ := ends M4 _ _ (by simp) h1 h2 hl hd
        exact ⟨none, _, e1, hdone _ _ M4 (hI _ _ _ _ hi e2) e3 e4 e5 (Nat.le_refl _) (fun h => (h2 _ h).2 rfl)⟩
      · rw [hJd] at hj
        obtain ⟨M4, st, pe, ⟨rfl, hp⟩, h1, h2, ⟨c, rfl, hi⟩, hl, hd⟩ := hj
        obtain ⟨e1, e2, e3, e4, e5⟩ := ends M4 _ _ (by simp) h1 h2 hl hd
        exact ⟨some c, _, e1, hstop _ c pre _ M4 hpre (hIx _ _ _ _ _ hi e2) e3 e4 e5 (Nat.le_refl _) (fun h => (h2 _ h).2 rfl)⟩
end Go.Proofs.Ytghblnldokpceaa.Seq
/- A region that draws its order, in a round of a range over a function: one condition S on the world for the whole region; what yields its value in every world that meets S is taken first. -/
namespace Go.Proofs.Ytghblnldokpceaa.Seq
open Go Go.RowKit
set_option linter.unusedVariables false

abbrev Rn (l : Nat) : Fence := Fence.wide.inRound l
theorem calls_in (l n : Nat) {P : Program} {f : FuncId} {args : Array Value} {w : World} {R : Ending → World → Prop} (h : Calls P f args w R) : CallsIn (Rn l) n P f args w R :=
  CallsIn.inRound l (callsIn_wide.2 h)
theorem rows_in (l n : Nat) {P : Program} {row : String} {args : Array Value} {w : World} {R : Value → World → Prop} (h : Rows P row args w R) : RowsIn (Rn l) n P row args w R := by
  intro c cs _
  obtain ⟨v, w', r, s⟩ := h c cs
  exact ⟨v, w', r, stepsIn_wide.2 s⟩
/-- An operation that is no deferred call, carried out in a round, goes as anywhere. -/
theorem op_in (l n : Nat) {P : Program} {o : Oper} {a : Act} {w : World} {K : Act → World → Prop} {Q : Exit → Act → World → Prop} (hnd : ∀ c, o.op ≠ .defer c) (h : o.wp P a w K Q) : o.wpIn (Rn l) n P a w K Q := by
  refine ⟨fun _ _ => trivial, ?_⟩
  unfold Oper.wp at h
  rw [show (Rn l).round = some l from rfl, Oper.semAt_some l _ _ hnd]
  generalize (execOp a.eval o).run P w = r at h
  cases r with
  | ok x w' =>
    cases x <;> simp only [Oper.upon, Oper.uponIn] at h ⊢
    case value v => exact h
    case skip => exact h
    case defer d => exact h
    case enter f args => exact ⟨(fun h => by cases h), calls_in l _ h⟩
    case row row args => exact ⟨(fun h => by cases h), rows_in l _ h⟩
  | halt x w' => cases x <;> simp only [Oper.upon, Oper.uponIn] at h ⊢; exact h

section
variable {l : Nat} {P : Program} {ops : Array Oper} {Q : Exit → Act → World → Prop} {S : World → Prop} {d : Nat}
def noDefer (ops : Array Oper) : Bool := ops.toList.all fun o => match o.op with | .defer _ => false | _ => true
theorem noDefer_spec (h : noDefer ops = true) (j : Nat) (o : Oper) (ho : ops[j]? = some o) : ∀ c, o.op ≠ .defer c := by
  intro c e
  have hm : o ∈ ops.toList := by
    have := Array.mem_of_getElem? ho
    simpa using this
  have := List.all_eq_true.1 h o hm
  rw [e] at this
  simp at this

/-- Number d waits for number i. -/
def waitsOn (ops : Array Oper) (d i : Nat) : Bool := match ops[d]? with
  | some o => o.after.toList.any (fun e => Region.binds .any e && e.on == i)
  | none => true
/-- S is to hold behind each operation but number d. -/
def wpAnyR (l : Nat) (P : Program) (ops : Array Oper) (Q : Exit → Act → World → Prop) (S : World → Prop) (d : Nat) : Nat → Array Bool → Act → World → Prop
  | 0, listed, a, w => Region.ready .any ops listed = [] ∧ Q .normal a w
  | fuel + 1, listed, a, w => (Region.ready .any ops listed = [] → Q .normal a w) ∧
    ∀ i ∈ Region.ready .any ops listed, wpOpIn (Rn l) 0 P ops Q i (fun a' w' => (i = d ∨ S w') ∧ wpAnyR l P ops Q S d fuel (listed.setIfInBounds i true) a' w') a w
theorem wpAnyIn_of_R : ∀ (fuel : Nat) (listed : Array Bool) (a : Act) (w : World), wpAnyR l P ops Q S d fuel listed a w → wpAnyIn (Rn l) 0 P .any ops Q fuel listed a w
  | 0, _, _, _, h => h
  | fuel + 1, _, _, _, h => ⟨h.1, fun i hi => wpOpIn_mono (fun a' w' h' => wpAnyIn_of_R fuel _ a' w' h'.2) (h.2 i hi)⟩
theorem YieldsIf.wpOpR {i : Nat} {o : Oper} {v : Value} {a : Act} (hnd : noDefer ops = true) (hi : ops[i]? = some o) (hy : YieldsIf P ops S o v a) {K : Act → World → Prop} {w : World} (hS : S w) (h : K (a.put o.dst v) w) : wpOpIn (Rn l) 0 P ops Q i K a w := by
  unfold Go.wpOpIn
  simp only [hi]
  rcases hy with ⟨hw, hv⟩ | ⟨hw, rfl⟩
  · simp only [hw, if_true]
    exact op_in l 0 (noDefer_spec hnd i o hi) (by simp only [Oper.wp, hv w hS, Oper.upon]; exact h)
  · simp only [hw, Bool.false_eq_true, if_false]; exact ⟨fun _ _ => trivial, h⟩
theorem wpOpR_putIf {j : Nat} {oi oj : Oper} {v : Value} (hnd : noDefer ops = true) (hj : ops[j]? = some oj) (hap : oi.apart ops oj = true)
    (hsi : ∀ cs b, oi.op ≠ .select cs b) (hsj : ∀ cs b, oj.op ≠ .select cs b)
    (hQ : ∀ c a w, Q (.panic c) (a.put oi.dst v) w → Q (.panic c) a w) {K : Act → World → Prop} {a : Act} {w : World}
    (hy : YieldsIf P ops S oi v a) (h : wpOpIn (Rn l) 0 P ops Q j K (a.put oi.dst v) w) :
    wpOpIn (Rn l) 0 P ops Q j (fun a' w' => YieldsIf P ops S oi v a' ∧ K (a'.put oi.dst v) w') a w := by
  have hnj := noDefer_spec hnd j oj hj
  obtain ⟨h1, h2, h3⟩ := Oper.apart_spec hap
  have keep : ∀ (a : Act), YieldsIf P ops S oi v a → ∀ u, YieldsIf P ops S oi v (a.put oj.dst u) := fun a hy u =>
    hy.of_same (execOp_put oi hsi a oj.dst u h3) (wanted_put oi a oj.dst u h3)
  have keepD : ∀ d, YieldsIf P ops S oi v { a with defers := d :: a.defers } := fun d => hy.of_same rfl rfl
  unfold wpOpIn at *
  simp only [hj] at *
  rw [wanted_put oj a oi.dst v h1] at h
  split
  · rename_i hw
    simp only [hw, if_true] at h
    unfold Oper.wpIn at *
    refine ⟨fun _ _ => trivial, ?_⟩
    have h := h.2
    rw [show (Rn l).round = some l from rfl, Oper.semAt_some l _ _ hnj] at h ⊢
    rw [execOp_put oj hsj a oi.dst v h1] at h
    generalize (execOp a.eval oj).run P w = r at *
    cases r with
    | ok x w' =>
      cases x <;> simp only [Oper.uponIn] at h ⊢
      case value u => exact ⟨keep a hy u, by rw [← Act.put_comm a v u h2]; exact h⟩
      case skip => exact ⟨keep a hy _, by rw [← Act.put_comm a v undef h2]; exact h⟩
      case defer d =>
        refine ⟨keep _ (keepD d) _, ?_⟩
        rw [← Act.put_comm _ v undef h2, ← Act.put_defers]
        exact h
      case enter f args =>
        refine ⟨h.1, CallsIn.mono h.2 fun e w'' he => ?_⟩
        cases e with
        | returned u => exact ⟨keep a hy u, by rw [← Act.put_comm a v u h2]; exact he⟩
        | panicked c => exact hQ _ _ _ he
        | outgrown => exact he
      case row row args => exact ⟨h.1, RowsIn.mono h.2 fun u w'' he => ⟨keep a hy u, by rw [← Act.put_comm a v u h2]; exact he⟩⟩
      case round l f tmps assign body =>
        refine ⟨h.1, RoundIn.mono h.2 fun e w'' he => ?_⟩
        cases e with
        | returned u => exact ⟨keep a hy u, by rw [← Act.put_comm a v u h2]; exact he⟩
        | panicked c => exact hQ _ _ _ he
        | outgrown => exact he
    | halt x w' =>
      cases x <;> simp only [Oper.uponIn] at h ⊢
      case panic u => exact hQ _ _ _ h
  · rename_i hw
    simp only [hw] at h
    exact ⟨fun _ _ => trivial, keep a hy _, by rw [← Act.put_comm a v undef h2]; exact h.2⟩
theorem wpAnyR_first {i : Nat} {oi : Oper} {v : Value} (hnd : noDefer ops = true) (hwd : waitsOn ops d i = true) (hi : ops[i]? = some oi) (hsel : ∀ (j : Nat) (o : Oper) cs b, ops[j]? = some o → o.op ≠ .select cs b)
    (hQ : ∀ c a w, Q (.panic c) (a.put oi.dst v) w → Q (.panic c) a w) :
    ∀ (fuel : Nat) (listed : Array Bool) (a : Act) (w : World),
      (∀ j oj, ops[j]? = some oj → j ≠ i → listed.getD j true = false → (∀ e ∈ oj.after, Region.binds .any e = true → e.on ≠ i) → oi.apart ops oj = true) →
      i ∈ Region.ready .any ops listed → YieldsIf P ops S oi v a → S w →
      wpAnyR l P ops Q S d fuel (listed.setIfInBounds i true) (a.put oi.dst v) w → wpAnyR l P ops Q S d (fuel + 1) listed a w := by
  intro fuel
  induction fuel with
  | zero =>
    intro listed a w _ hr hy hS H
    refine ⟨fun h => (by rw [h] at hr; cases hr), fun j hj => ?_⟩
    by_cases hji : j = i
    · subst hji; exact YieldsIf.wpOpR hnd hi hy hS ⟨.inr hS, H⟩
    · have := ready_mono hj hji
      rw [H.1] at this
      cases this
  | succ fuel ih =>
    intro listed a w hfree hr hy hS H
    refine ⟨fun h => (by rw [h] at hr; cases hr), fun j hj => ?_⟩
    by_cases hji : j = i
    · subst hji; exact YieldsIf.wpOpR hnd hi hy hS ⟨.inr hS, H⟩
    · have h1 := H.2 j (ready_mono hj hji)
      obtain ⟨hjun, oj, hoj, hall⟩ := mem_ready.1 hj
      have hnot : ∀ e ∈ oj.after, Region.binds .any e = true → e.on ≠ i := fun e he hb heq => by
        have h1 := hall e he hb
        have h0 := (mem_ready.1 hr).1
        rw [heq] at h1
        rcases Nat.lt_or_ge i listed.size with h' | h'
        · simp [h'] at h0 h1; rw [h0] at h1; cases h1
        · simp [Array.getElem?_eq_none h'] at h1
      have h2 := wpOpR_putIf hnd hoj (hfree j oj hoj hji hjun hnot) (fun cs b => hsel i oi cs b hi) (fun cs b => hsel j oj cs b hoj) hQ hy h1
      have hfree' : ∀ k ok, ops[k]? = some ok → k ≠ i → (listed.setIfInBounds j true).getD k true = false →
          (∀ e ∈ ok.after, Region.binds .any e = true → e.on ≠ i) → oi.apart ops ok = true := fun k ok hk hki hun hno => by
        refine hfree k ok hk hki ?_ hno
        by_cases hjk : j = k
        · subst hjk; exact hjun
        · rw [getD_set_ne true hjk] at hun; exact hun
      have hjd : j ≠ d := by
        rintro rfl
        unfold waitsOn at hwd
        rw [hoj] at hwd
        obtain ⟨q, hq, hqb⟩ := List.any_eq_true.1 hwd
        rw [Array.mem_toList_iff] at hq
        rw [Bool.and_eq_true] at hqb
        exact hnot q hq hqb.1 (by simpa using hqb.2)
      refine wpOpIn_mono (fun a' w' h3 => ⟨.inr (h3.2.1.resolve_left hjd), ih (listed.setIfInBounds j true) a' w' hfree' (ready_mono hr (Ne.symm hji)) h3.1 (h3.2.1.resolve_left hjd) ?_⟩) h2
      rw [Array.setIfInBounds_comm _ _ hji]
      exact h3.2.2
/-- Take number i first. -/
theorem wpAnyR_take {i : Nat} {oi : Oper} {v : Value} {fuel : Nat} {listed : Array Bool} {a : Act} {w : World} (hnd : noDefer ops = true) (hwd : waitsOn ops d i = true) (hi : ops[i]? = some oi)
    (hs : Region.noSelect ops = true) (hf : Region.free .any ops listed i = true) (hr : (Region.ready .any ops listed).contains i = true)
    (hQ : ∀ c a w, Q (.panic c) (a.put oi.dst v) w → Q (.panic c) a w) (hy : YieldsIf P ops S oi v a) (hS : S w)
    (h : wpAnyR l P ops Q S d fuel (listed.setIfInBounds i true) (a.put oi.dst v) w) : wpAnyR l P ops Q S d (fuel + 1) listed a w :=
  wpAnyR_first hnd hwd hi (Region.noSelect_spec hs) hQ fuel listed a w (Region.free_spec hi hf) (by simpa using hr) hy hS h
/-- Number i is the only one that may come up: it goes as anywhere. -/
theorem wpAnyR_one {i : Nat} {o : Oper} {fuel : Nat} {listed : Array Bool} {a : Act} {w : World} (hnd : noDefer ops = true) (hr : Region.ready .any ops listed = [i]) (ho : ops[i]? = some o)
    (h : ∀ K' : Act → World → Prop, Shut (∀ a w, (i = d ∨ S w) → wpAnyR l P ops Q S d fuel (listed.setIfInBounds i true) a w → K' a w) → if Region.wanted o (yielded ops a.tmps) = true then Oper.wp P o a w K' Q else K' (a.put o.dst undef) w) :
    wpAnyR l P ops Q S d (fuel + 1) listed a w := by
  refine ⟨fun h0 => (by rw [hr] at h0; cases h0), fun j hj => ?_⟩
  rw [hr] at hj
  obtain rfl := List.mem_singleton.1 hj
  have := h (fun a' w' => (j = d ∨ S w') ∧ wpAnyR l P ops Q S d fuel (listed.setIfInBounds j true) a' w') (fun a w hs hw => ⟨hs, hw⟩)
  unfold Go.wpOpIn
  simp only [ho]
  split
  · rename_i hw; rw [if_pos hw] at this; exact op_in l 0 (noDefer_spec hnd j o ho) this
  · rename_i hw; rw [if_neg hw] at this; exact ⟨fun _ _ => trivial, this⟩
/-- Number i is the only one that may come up, and it is a call of yield (or whatever else goes in a round alone). -/
theorem wpAnyR_oneIn {i : Nat} {o : Oper} {fuel : Nat} {listed : Array Bool} {a : Act} {w : World} (hr : Region.ready .any ops listed = [i]) (ho : ops[i]? = some o)
    (h : ∀ K' : Act → World → Prop, Shut (∀ a w, (i = d ∨ S w) → wpAnyR l P ops Q S d fuel (listed.setIfInBounds i true) a w → K' a w) → if Region.wanted o (yielded ops a.tmps) = true then Oper.wpIn (Rn l) 0 P o a w K' Q else K' (a.put o.dst undef) w) :
    wpAnyR l P ops Q S d (fuel + 1) listed a w := by
  refine ⟨fun h0 => (by rw [hr] at h0; cases h0), fun j hj => ?_⟩
  rw [hr] at hj
  obtain rfl := List.mem_singleton.1 hj
  have := h (fun a' w' => (j = d ∨ S w') ∧ wpAnyR l P ops Q S d fuel (listed.setIfInBounds j true) a' w') (fun a w hs hw => ⟨hs, hw⟩)
  unfold Go.wpOpIn
  simp only [ho]
  split
  · rename_i hw; rw [if_pos hw] at this; exact this
  · rename_i hw; rw [if_neg hw] at this; exact ⟨fun _ _ => trivial, this⟩
theorem wpAnyR_done {listed : Array Bool} {a : Act} {w : World} (hr : Region.ready .any ops listed = []) (h : Q .normal a w) : ∀ fuel, wpAnyR l P ops Q S d fuel listed a w
  | 0 => ⟨hr, h⟩
  | _ + 1 => ⟨fun _ => h, by rw [hr]; simp⟩
/-- The beginning. -/
theorem wpIn_region_R (d : Nat) {id : Nat} {a : Act} {w : World} (hm : P.follows .mixedOrders = true) (hS : S w.drew)
    (h : S w.drew → wpAnyR l P ops Q S d ops.size (Array.replicate ops.size false) a w.drew) : (Code.region id ops true).wpIn (Rn l) 0 P Q a w :=
  wpIn_region_any hm (wpAnyIn_of_R _ _ _ _ (h hS))
end
end Go.Proofs.Ytghblnldokpceaa.Seq
/- slices.Values of a slice of rows: the iterator hands out the rows, one behind the other. -/
namespace Go.Proofs.Ytghblnldokpceaa.QV
open Go.RowKit Go.Proofs.YtghblnldokpceaaW.PrintWords Go.Proofs.Ytghblnldokpceaa.Seq Go.Shelf
set_option linter.unusedVariables false
set_option linter.unusedSimpArgs false
attribute [local go_sem] Oper.semAt_some

abbrev Row : Type := List S42
abbrev kRows : Kd Row := Kd.slice 42 k42
abbrev tRow : Nat := 31

theorem values_any (sv : Value) (hs : ∃ A n c, sv = .slice A n c) (w : World) :
    Calls Try.prog 13 #[sv] w fun e w' => e = .returned (.func (.func 36) #[] #[.pointer (some ⟨w.heap.size, 0, none⟩)]) ∧ w' = w.alloc (.cells #[sv] 22) := by
  obtain ⟨A, n, c, rfl⟩ := hs
  go_enter Try.func13, Try.ntmps13
  go_wp2
  go_ret
  exact ⟨rfl, rfl⟩

/-- 'seq == nil', of an iterator that is none. -/
theorem run_equalIn_func_nil {P : Program} {t : TypeId} {ps rs : Array TypeId} {b : Bool} (ht : P.underlying t = some (.func ps rs b)) (d : Nat) (fn : Fn) (lb : Array Value) (w : World) : (Op.equalIn (d + 1) t (.func fn #[] lb) .nilFunc).run P w = .ok false w := by
  simp [Op.equalIn, run_underlying ht]
theorem run_func_nil {P : Program} {t : TypeId} {ps rs : Array TypeId} {b : Bool} (ht : P.underlying t = some (.func ps rs b)) (fn : Fn) (lb : Array Value) (w : World) : (binOp .eql t (.func fn #[] lb) .nilFunc).run P w = .ok (.bool false) w := by
  have h : (Op.equal t (.func fn #[] lb) .nilFunc).run P w = .ok false w := run_equalIn_func_nil ht 9999 fn lb w
  simp [binOp, h]
/-- A row that was there when the iterator was made. -/
def RdOld (w0 : World) (A : World) (N : Nat → Prop) (x : Row) (vs : Array Value) : Prop :=
  (∀ i, ¬ N i) ∧ Below w0.heap.size w0 A ∧ ∃ Ad c, vs = #[.slice Ad x.length c] ∧ x.length ≤ c ∧ kS.C w0 Ad x.length x
theorem RdOld.kept {w0 A B : World} {N : Nat → Prop} {x : Row} {vs : Array Value} (h : RdOld w0 A N x vs) (hk : Kpt (fun i => w0.heap.size ≤ i ∧ ¬ N i) A B) : RdOld w0 B N x vs :=
  ⟨h.1, h.2.1.trans (hk.below h.2.1.size (fun i _ k => k.1)), h.2.2⟩
theorem RS_ok {w : World} {base : Nat} {ok ok' : Nat → Prop} {v : Value} {x : Row} (h : kS.R tS w base ok v x) (h' : ∀ k, v.ownBlock = some k → ok' k) : kS.R tS w base ok' v x :=
  ⟨h', h.2.imp_ (fun _ _ hp => kS_KM _ _ (kS.K_of_M hp))⟩
/-- A row of the consumer's own: made since. -/
def RdNew (w0 : World) (A : World) (N : Nat → Prop) (x : Row) (vs : Array Value) : Prop :=
  ∃ v, vs = #[v] ∧ kS.R tS A w0.heap.size N v x ∧ ∀ i, N i → i < A.heap.size
theorem RdNew.kept {w0 A B : World} {N : Nat → Prop} {x : Row} {vs : Array Value} (h : RdNew w0 A N x vs) (hk : Kpt (fun i => w0.heap.size ≤ i ∧ ¬ N i) A B) : RdNew w0 B N x vs := by
  obtain ⟨v, rfl, hr, hN⟩ := h
  exact ⟨v, rfl, Kd.R_move hr (fun k hk' => hk.block k (hN k hk') (fun z => z.2 hk')), fun i hi => Nat.lt_of_lt_of_le (hN i hi) hk.size⟩
theorem take_snoc' {α : Type} (z : α) (l : List α) (i : Nat) (h : i < l.length) : l.take i ++ [l.getD i z] = l.take (i + 1) := by
  rw [List.take_succ_eq_append_getElem h, List.getD_eq_getElem?_getD, List.getElem?_eq_getElem h]; rfl

set_option maxRecDepth 100000 in
set_option maxHeartbeats 2000000 in
theorem values_seq (A : Option Addr) (xs : List Row) (c B : Nat) (w : World) (hB : B < w.heap.size) (hcell : w.cell? ⟨B, 0, none⟩ = some (.slice A xs.length c)) (hr : kRows.C w A xs.length xs) :
    SeqOf Try.prog 36 #[.pointer (some ⟨B, 0, none⟩)] (RdOld w) xs w := by
  intro l J Jx W M hW hM hJ hJx hY h0
  have hmax := hr.2.1
  have hcW : W.cell? ⟨B, 0, none⟩ = some (.slice A xs.length c) := (hW.cell (p := ⟨B, 0, none⟩) hB).trans hcell
  refine (callsIn_wide (n := 0)).1 (callsIn_of_wp Try.func36 rfl trivial ?_ rfl)
  simp only [Try.ntmps36, List.size_toArray, List.length_cons, List.length_nil, Nat.reduceAdd, Nat.reduceSub, Array.replicate_succ, Array.replicate_zero, List.push_toArray, List.append_toArray, List.nil_append, List.cons_append]
  gi_wp2
  gi_loopw [7] (fun i wr => ∃ k : Nat, k ≤ xs.length ∧ i = .int .i64 k ∧ ∃ Mk : Nat → Prop, J (xs.take k) Mk wr ∧ (∀ i, Mk i → (M i ∨ W.heap.size ≤ i) ∧ i < wr.heap.size) ∧ Kpt M W wr)
    (fun i _ => xs.length - (intOf i).toNat)
  case atStart => exact ⟨0, Nat.zero_le _, rfl, M, by simpa using h0, fun i hi => ⟨.inl hi, (hM i hi).2⟩, Kpt.refl _ _⟩
  case round =>
    obtain ⟨k, hk, rfl, Mk, hJk, hMk, hkp⟩ := hrel
    have hBr : Below w.heap.size w wr := hW.trans (hkp.below hW.size (fun i _ h => (hM i h).1))
    by_cases hlt : k < xs.length
    · obtain ⟨ad, cs, rfl, _, hK, hcs⟩ := Kd.C_get hr [] k (by omega) (by omega)
      obtain ⟨Ad, cp, rfl, hle, hC⟩ := hK
      have hx : xs.getD (k : Int).toNat [] = xs.getD k [] := rfl
      rw [hx] at hle hC hcs
      have hc0 := pw_cell_below hBr (hcs 0 _ rfl)
      have hsz : kRows.sz = 1 := rfl
      rw [hsz, Int.toNat_natCast, Nat.mul_one, Nat.add_zero] at hc0
      have hts := take_snoc' ([] : Row) xs k hlt
      have hYk := hY (xs.take k) (xs.getD k []) #[.slice Ad (xs.getD k []).length cp] (fun _ => False) wr Mk hJk (by rw [hts]; exact List.take_prefix _ _) ⟨fun _ h => h, hBr, Ad, cp, rfl, hle, hC⟩
        (fun i hi => ⟨by rcases (hMk i hi).1 with h | h; exact (hM i h).1; exact Nat.le_trans hW.size h, (hMk i hi).2⟩) (fun i h => h.elim) hkp.size
      rw [hts] at hYk
      have HT := Lib.hid hts
      clear hts
      generalize xs.getD k [] = x at *
      obtain ⟨fn, tmps, assign, body, hy, hR⟩ := hYk
      gi_wp2
      refine ⟨rfl, hR.mono ?_⟩
      rintro e W3 ⟨M3, hM3, hk3, (⟨rfl, hJ3⟩ | ⟨rfl, hJ3⟩)⟩
      · have hK3 : Kpt M W W3 := hkp.trans hk3 (fun i hi h => by
          rcases h with h | h | h
          · exact h
          · rcases (hMk i h).1 with z | z
            · exact z
            · omega
          · exact h.elim)
        have hMM : ∀ i, M3 i → (M i ∨ W.heap.size ≤ i) ∧ i < W3.heap.size := fun i hi => by
          refine ⟨?_, (hM3 i hi).2⟩
          rcases (hM3 i hi).1 with h | h | h
          · exact (hMk i h).1
          · exact h.elim
          · exact .inr (Nat.le_trans hkp.size h)
        gi_wp2
        go_roundw
        case rel => exact ⟨k + 1, by omega, by go_num, M3, hJ3, hMM, hK3⟩
        case measure => simp [intOf]; omega
      · have hK3 : Kpt M W W3 := hkp.trans hk3 (fun i hi h => by
          rcases h with h | h | h
          · exact h
          · rcases (hMk i h).1 with z | z
            · exact z
            · omega
          · exact h.elim)
        have hMM : ∀ i, M3 i → (M i ∨ W.heap.size ≤ i) ∧ i < W3.heap.size := fun i hi => by
          refine ⟨?_, (hM3 i hi).2⟩
          rcases (hM3 i hi).1 with h | h | h
          · exact (hMk i h).1
          · exact h.elim
          · exact .inr (Nat.le_trans hkp.size h)
        gi_wp2
        refine bodyPost_ret (results_none rfl _ _ _) rfl ?_
        exact ⟨⟨_, rfl⟩, M3, hMM, hK3, .inr ⟨_, List.take_prefix _ _, hJ3⟩⟩
    · obtain rfl : k = xs.length := by omega
      gi_wp2
      go_end0
      rw [List.take_length] at hJk
      exact ⟨⟨_, rfl⟩, Mk, hMk, hkp, .inl hJk⟩
end Go.Proofs.Ytghblnldokpceaa.QV
/- XRound outside a round (printed from XRound): one condition S on the world for the whole region; what yields its value in every world that meets S is taken first. -/
namespace Go.Proofs.Ytghblnldokpceaa.SeqW
open Go Go.RowKit
set_option linter.unusedVariables false

abbrev Rn (l : Nat) : Fence := Fence.wide
theorem calls_in (l n : Nat) {P : Program} {f : FuncId} {args : Array Value} {w : World} {R : Ending → World → Prop} (h : Calls P f args w R) : CallsIn (Rn l) n P f args w R :=
  callsIn_wide.2 h
theorem rows_in (l n : Nat) {P : Program} {row : String} {args : Array Value} {w : World} {R : Value → World → Prop} (h : Rows P row args w R) : RowsIn (Rn l) n P row args w R := by
  intro c cs _
  obtain ⟨v, w', r, s⟩ := h c cs
  exact ⟨v, w', r, stepsIn_wide.2 s⟩
/-- An operation that is no deferred call, carried out in a round, goes as anywhere. -/
theorem op_in (l n : Nat) {P : Program} {o : Oper} {a : Act} {w : World} {K : Act → World → Prop} {Q : Exit → Act → World → Prop} (hnd : ∀ c, o.op ≠ .defer c) (h : o.wp P a w K Q) : o.wpIn (Rn l) n P a w K Q := by
  refine ⟨fun _ _ => trivial, ?_⟩
  unfold Oper.wp at h
  rw [show (Rn l).round = none from rfl, Oper.semAt_none]
  generalize (execOp a.eval o).run P w = r at h
  cases r with
  | ok x w' =>
    cases x <;> simp only [Oper.upon, Oper.uponIn] at h ⊢
    case value v => exact h
    case skip => exact h
    case defer d => exact h
    case enter f args => exact ⟨(fun h => by cases h), calls_in l _ h⟩
    case row row args => exact ⟨(fun h => by cases h), rows_in l _ h⟩
  | halt x w' => cases x <;> simp only [Oper.upon, Oper.uponIn] at h ⊢; exact h

section
variable {l : Nat} {P : Program} {ops : Array Oper} {Q : Exit → Act → World → Prop} {S : World → Prop} {d : Nat}
def noDefer (ops : Array Oper) : Bool := ops.toList.all fun o => match o.op with | .defer _ => false | _ => true
theorem noDefer_spec (h : noDefer ops = true) (j : Nat) (o : Oper) (ho : ops[j]? = some o) : ∀ c, o.op ≠ .defer c := by
  intro c e
  have hm : o ∈ ops.toList := by
    have := Array.mem_of_getElem? ho
    simpa using this
  have := List.all_eq_true.1 h o hm
  rw [e] at this
  simp at this

/-- Number d waits for number i. -/
def waitsOn (ops : Array Oper) (d i : Nat) : Bool := match ops[d]? with
  | some o => o.after.toList.any (fun e => Region.binds .any e && e.on == i)
  | none => true
/-- S is to hold behind each operation but number d. -/
def wpAnyR (l : Nat) (P : Program) (ops : Array Oper) (Q : Exit → Act → World → Prop) (S : World → Prop) (d : Nat) : Nat → Array Bool → Act → World → Prop
  | 0, listed, a, w => Region.ready .any ops listed = [] ∧ Q .normal a w
  | fuel + 1, listed, a, w => (Region.ready .any ops listed = [] → Q .normal a w) ∧
    ∀ i ∈ Region.ready .any ops listed, wpOpIn (Rn l) 0 P ops Q i (fun a' w' => (i = d ∨ S w') ∧ wpAnyR l P ops Q S d fuel (listed.setIfInBounds i true) a' w') a w
theorem wpAnyIn_of_R : ∀ (fuel : Nat) (listed : Array Bool) (a : Act) (w : World), wpAnyR l P ops Q S d fuel listed a w → wpAnyIn (Rn l) 0 P .any ops Q fuel listed a w
  | 0, _, _, _, h => h
  | fuel + 1, _, _, _, h => ⟨h.1, fun i hi => wpOpIn_mono (fun a' w' h' => wpAnyIn_of_R fuel _ a' w' h'.2) (h.2 i hi)⟩
theorem YieldsIf.wpOpR {i : Nat} {o : Oper} {v : Value} {a : Act} (hnd : noDefer ops = true) (hi : ops[i]? = some o) (hy : YieldsIf P ops S o v a) {K : Act → World → Prop} {w : World} (hS : S w) (h : K (a.put o.dst v) w) : wpOpIn (Rn l) 0 P ops Q i K a w := by
  unfold Go.wpOpIn
  simp only [hi]
  rcases hy with ⟨hw, hv⟩ | ⟨hw, rfl⟩
  · simp only [hw, if_true]
    exact op_in l 0 (noDefer_spec hnd i o hi) (by simp only [Oper.wp, hv w hS, Oper.upon]; exact h)
  · simp only [hw, Bool.false_eq_true, if_false]; exact ⟨fun _ _ => trivial, h⟩
theorem wpOpR_putIf {j : Nat} {oi oj : Oper} {v : Value} (hnd : noDefer ops = true) (hj : ops[j]? = some oj) (hap : oi.apart ops oj = true)
    (hsi : ∀ cs b, oi.op ≠ .select cs b) (hsj : ∀ cs b, oj.op ≠ .select cs b)
    (hQ : ∀ c a w, Q (.panic c) (a.put oi.dst v) w → Q (.panic c) a w) {K : Act → World → Prop} {a : Act} {w : World}
    (hy : YieldsIf P ops S oi v a) (h : wpOpIn (Rn l) 0 P ops Q j K (a.put oi.dst v) w) :
    wpOpIn (Rn l) 0 P ops Q j (fun a' w' => YieldsIf P ops S oi v a' ∧ K (a'.put oi.dst v) w') a w := by
  have hnj := noDefer_spec hnd j oj hj
  obtain ⟨h1, h2, h3⟩ := Oper.apart_spec hap
  have keep : ∀ (a : Act), YieldsIf P ops S oi v a → ∀ u, YieldsIf P ops S oi v (a.put oj.dst u) := fun a hy u =>
    hy.of_same (execOp_put oi hsi a oj.dst u h3) (wanted_put oi a oj.dst u h3)
  have keepD : ∀ d, YieldsIf P ops S oi v { a with defers := d :: a.defers } := fun d => hy.of_same rfl rfl
  unfold wpOpIn at *
  simp only [hj] at *
  rw [wanted_put oj a oi.dst v h1] at h
  split
  · rename_i hw
    simp only [hw, if_true] at h
    unfold Oper.wpIn at *
    refine ⟨fun _ _ => trivial, ?_⟩
    have h := h.2
    rw [show (Rn l).round = none from rfl, Oper.semAt_none] at h ⊢
    rw [execOp_put oj hsj a oi.dst v h1] at h
    generalize (execOp a.eval oj).run P w = r at *
    cases r with
    | ok x w' =>
      cases x <;> simp only [Oper.uponIn] at h ⊢
      case value u => exact ⟨keep a hy u, by rw [← Act.put_comm a v u h2]; exact h⟩
      case skip => exact ⟨keep a hy _, by rw [← Act.put_comm a v undef h2]; exact h⟩
      case defer d =>
        refine ⟨keep _ (keepD d) _, ?_⟩
        rw [← Act.put_comm _ v undef h2, ← Act.put_defers]
        exact h
      case enter f args =>
        refine ⟨h.1, CallsIn.mono h.2 fun e w'' he => ?_⟩
        cases e with
        | returned u => exact ⟨keep a hy u, by rw [← Act.put_comm a v u h2]; exact he⟩
        | panicked c => exact hQ _ _ _ he
        | outgrown => exact he
      case row row args => exact ⟨h.1, RowsIn.mono h.2 fun u w'' he => ⟨keep a hy u, by rw [← Act.put_comm a v u h2]; exact he⟩⟩
      case round l f tmps assign body =>
        refine ⟨h.1, RoundIn.mono h.2 fun e w'' he => ?_⟩
        cases e with
        | returned u => exact ⟨keep a hy u, by rw [← Act.put_comm a v u h2]; exact he⟩
        | panicked c => exact hQ _ _ _ he
        | outgrown => exact he
    | halt x w' =>
      cases x <;> simp only [Oper.uponIn] at h ⊢
      case panic u => exact hQ _ _ _ h
  · rename_i hw
    simp only [hw] at h
    exact ⟨fun _ _ => trivial, keep a hy _, by rw [← Act.put_comm a v undef h2]; exact h.2⟩
theorem wpAnyR_first {i : Nat} {oi : Oper} {v : Value} (hnd : noDefer ops = true) (hwd : waitsOn ops d i = true) (hi : ops[i]? = some oi) (hsel : ∀ (j : Nat) (o : Oper) cs b, ops[j]? = some o → o.op ≠ .select cs b)
    (hQ : ∀ c a w, Q (.panic c) (a.put oi.dst v) w → Q (.panic c) a w) :
    ∀ (fuel : Nat) (listed : Array Bool) (a : Act) (w : World),
      (∀ j oj, ops[j]? = some oj → j ≠ i → listed.getD j true = false → (∀ e ∈ oj.after, Region.binds .any e = true → e.on ≠ i) → oi.apart ops oj = true) →
      i ∈ Region.ready .any ops listed → YieldsIf P ops S oi v a → S w →
      wpAnyR l P ops Q S d fuel (listed.setIfInBounds i true) (a.put oi.dst v) w → wpAnyR l P ops Q S d (fuel + 1) listed a w := by
  intro fuel
  induction fuel with
  | zero =>
    intro listed a w _ hr hy hS H
    refine ⟨fun h => (by rw [h] at hr; cases hr), fun j hj => ?_⟩
    by_cases hji : j = i
    · subst hji; exact YieldsIf.wpOpR hnd hi hy hS ⟨.inr hS, H⟩
    · have := ready_mono hj hji
      rw [H.1] at this
      cases this
  | succ fuel ih =>
    intro listed a w hfree hr hy hS H
    refine ⟨fun h => (by rw [h] at hr; cases hr), fun j hj => ?_⟩
    by_cases hji : j = i
    · subst hji; exact YieldsIf.wpOpR hnd hi hy hS ⟨.inr hS, H⟩
    · have h1 := H.2 j (ready_mono hj hji)
      obtain ⟨hjun, oj, hoj, hall⟩ := mem_ready.1 hj
      have hnot : ∀ e ∈ oj.after, Region.binds .any e = true → e.on ≠ i := fun e he hb heq => by
        have h1 := hall e he hb
        have h0 := (mem_ready.1 hr).1
        rw [heq] at h1
        rcases Nat.lt_or_ge i listed.size with h' | h'
        · simp [h'] at h0 h1; rw [h0] at h1; cases h1
        · simp [Array.getElem?_eq_none h'] at h1
      have h2 := wpOpR_putIf hnd hoj (hfree j oj hoj hji hjun hnot) (fun cs b => hsel i oi cs b hi) (fun cs b => hsel j oj cs b hoj) hQ hy h1
      have hfree' : ∀ k ok, ops[k]? = some ok → k ≠ i → (listed.setIfInBounds j true).getD k true = false →
          (∀ e ∈ ok.after, Region.binds .any e = true → e.on ≠ i) → oi.apart ops ok = true := fun k ok hk hki hun hno => by
        refine hfree k ok hk hki ?_ hno
        by_cases hjk : j = k
        · subst hjk; exact hjun
        · rw [getD_set_ne true hjk] at hun; exact hun
      have hjd : j ≠ d := by
        rintro rfl
        unfold waitsOn at hwd
        rw [hoj] at hwd
        obtain ⟨q, hq, hqb⟩ := List.any_eq_true.1 hwd
        rw [Array.mem_toList_iff] at hq
        rw [Bool.and_eq_true] at hqb
        exact hnot q hq hqb.1 (by simpa using hqb.2)
      refine wpOpIn_mono (fun a' w' h3 => ⟨.inr (h3.2.1.resolve_left hjd), ih (listed.setIfInBounds j true) a' w' hfree' (ready_mono hr (Ne.symm hji)) h3.1 (h3.2.1.resolve_left hjd) ?_⟩) h2
      rw [Array.setIfInBounds_comm _ _ hji]
      exact h3.2.2
/-- Take number i first. -/
theorem wpAnyR_take {i : Nat} {oi : Oper} {v : Value} {fuel : Nat} {listed : Array Bool} {a : Act} {w : World} (hnd : noDefer ops = true) (hwd : waitsOn ops d i = true) (hi : ops[i]? = some oi)
    (hs : Region.noSelect ops = true) (hf : Region.free .any ops listed i = true) (hr : (Region.ready .any ops listed).contains i = true)
    (hQ : ∀ c a w, Q (.panic c) (a.put oi.dst v) w → Q (.panic c) a w) (hy : YieldsIf P ops S oi v a) (hS : S w)
    (h : wpAnyR l P ops Q S d fuel (listed.setIfInBounds i true) (a.put oi.dst v) w) : wpAnyR l P ops Q S d (fuel + 1) listed a w :=
  wpAnyR_first hnd hwd hi (Region.noSelect_spec hs) hQ fuel listed a w (Region.free_spec hi hf) (by simpa using hr) hy hS h
/-- Number i is the only one that may come up: it goes as anywhere. -/
theorem wpAnyR_one {i : Nat} {o : Oper} {fuel : Nat} {listed : Array Bool} {a : Act} {w : World} (hnd : noDefer ops = true) (hr : Region.ready .any ops listed = [i]) (ho : ops[i]? = some o)
    (h : ∀ K' : Act → World → Prop, Shut (∀ a w, (i = d ∨ S w) → wpAnyR l P ops Q S d fuel (listed.setIfInBounds i true) a w → K' a w) → if Region.wanted o (yielded ops a.tmps) = true then Oper.wp P o a w K' Q else K' (a.put o.dst undef) w) :
    wpAnyR l P ops Q S d (fuel + 1) listed a w := by
  refine ⟨fun h0 => (by rw [hr] at h0; cases h0), fun j hj => ?_⟩
  rw [hr] at hj
  obtain rfl := List.mem_singleton.1 hj
  have := h (fun a' w' => (j = d ∨ S w') ∧ wpAnyR l P ops Q S d fuel (listed.setIfInBounds j true) a' w') (fun a w hs hw => ⟨hs, hw⟩)
  unfold Go.wpOpIn
  simp only [ho]
  split
  · rename_i hw; rw [if_pos hw] at this; exact op_in l 0 (noDefer_spec hnd j o ho) this
  · rename_i hw; rw [if_neg hw] at this; exact ⟨fun _ _ => trivial, this⟩
/-- Number i is the only one that may come up, and it is a call of yield (or whatever else goes in a round alone). -/
theorem wpAnyR_oneIn {i : Nat} {o : Oper} {fuel : Nat} {listed : Array Bool} {a : Act} {w : World} (hr : Region.ready .any ops listed = [i]) (ho : ops[i]? = some o)
    (h : ∀ K' : Act → World → Prop, Shut (∀ a w, (i = d ∨ S w) → wpAnyR l P ops Q S d fuel (listed.setIfInBounds i true) a w → K' a w) → if Region.wanted o (yielded ops a.tmps) = true then Oper.wpIn (Rn l) 0 P o a w K' Q else K' (a.put o.dst undef) w) :
    wpAnyR l P ops Q S d (fuel + 1) listed a w := by
  refine ⟨fun h0 => (by rw [hr] at h0; cases h0), fun j hj => ?_⟩
  rw [hr] at hj
  obtain rfl := List.mem_singleton.1 hj
  have := h (fun a' w' => (j = d ∨ S w') ∧ wpAnyR l P ops Q S d fuel (listed.setIfInBounds j true) a' w') (fun a w hs hw => ⟨hs, hw⟩)
  unfold Go.wpOpIn
  simp only [ho]
  split
  · rename_i hw; rw [if_pos hw] at this; exact this
  · rename_i hw; rw [if_neg hw] at this; exact ⟨fun _ _ => trivial, this⟩
theorem wpAnyR_done {listed : Array Bool} {a : Act} {w : World} (hr : Region.ready .any ops listed = []) (h : Q .normal a w) : ∀ fuel, wpAnyR l P ops Q S d fuel listed a w
  | 0 => ⟨hr, h⟩
  | _ + 1 => ⟨fun _ => h, by rw [hr]; simp⟩
/-- The beginning. -/
theorem wpIn_region_R (d : Nat) {id : Nat} {a : Act} {w : World} (hm : P.follows .mixedOrders = true) (hS : S w.drew)
    (h : S w.drew → wpAnyR l P ops Q S d ops.size (Array.replicate ops.size false) a w.drew) : (Code.region id ops true).wpIn (Rn l) 0 P Q a w :=
  wpIn_region_any hm (wpAnyIn_of_R _ _ _ _ (h hS))
end
end Go.Proofs.Ytghblnldokpceaa.SeqW
/- slices.SortStableFunc over rows, walked: insertion sort of a part. -/
namespace Go.Proofs.Ytghblnldokpceaa.QV
open Go.RowKit Go.Proofs.YtghblnldokpceaaW.PrintWords Go.Proofs.Ytghblnldokpceaa.SeqW Go.Shelf Go.Proofs.Ytghblnldokpceaa.Op Go.Proofs.Ytghblnldokpceaa.Stab
set_option linter.unusedVariables false
set_option linter.unusedSimpArgs false
abbrev tEl : Nat := 31

/-- A block that holds elements, one behind the other. -/
def El (enc : Nat → Value) (rest : List Value) (g : Nat) (xs : List Nat) (W : World) : Prop := W.heap[g]? = some (.cells (xs.map enc ++ rest).toArray tEl (0, 0))
theorem El.at {enc : Nat → Value} {rest : List Value} {g : Nat} {A B : List Nat} {x : Nat} {W : World} (h : El enc rest g (A ++ x :: B) W) {i : Nat} (hi : A.length = i) : W.cell? ⟨g, i, none⟩ = some (enc x) := by
  subst hi
  rw [blk_cell h]
  simp
theorem El.frozen {enc : Nat → Value} {rest : List Value} {g : Nat} {xs : List Nat} {W : World} (h : El enc rest g xs W) (i : Nat) : W.frozen? ⟨g, i, none⟩ = false := blk_frozen h i
theorem El.set {enc : Nat → Value} {rest : List Value} {g : Nat} {A B : List Nat} {x y : Nat} {W : World} (h : El enc rest g (A ++ x :: B) W) {i : Nat} (hi : A.length = i) : El enc rest g (A ++ y :: B) (W.setCell ⟨g, i, none⟩ (enc y)) := by
  subst hi
  have h2 := blk_set h A.length (enc y)
  refine h2.trans ?_
  simp
theorem El.kept {enc : Nat → Value} {rest : List Value} {g : Nat} {xs : List Nat} {W W' : World} (h : El enc rest g xs W) (hb : Below W.heap.size W W') : El enc rest g xs W' := blk_below h hb
theorem El.cast {enc : Nat → Value} {rest : List Value} {g : Nat} {xs ys : List Nat} {W : World} (h : El enc rest g xs W) (e : xs = ys) : El enc rest g ys W := e ▸ h
/-- The comparison, in whatever world in which but the elements' block is as it was. -/
def CmpAt (cf : Nat → Nat → Int) (enc : Nat → Value) (gc : Nat) (lb : Array Value) (g : Nat) (w0 : World) : Prop :=
  ∀ x y V, Seq.Kpt (fun i => i = g) w0 V → Calls Try.prog gc (#[enc x, enc y] ++ lb) V fun e V' => e = .returned (.int .i64 (cf x y)) ∧ Below V.heap.size V V'

set_option maxRecDepth 100000 in
set_option maxHeartbeats 2000000 in
theorem ins_any (n c a b g : Nat) (cf : Nat → Nat → Int) (gc : Nat) (lb : Array Value) (hcf : CmpOk cf) (enc : Nat → Value) (rest : List Value) (p s q : List Nat) (w0 W : World)
    (hx : El enc rest g (p ++ s ++ q) W) (hp : p.length = a) (hs : a + s.length = b) (hn : (p ++ s ++ q).length = n) (hn2 : n ≤ 5864062014805) (hasc : s.Pairwise (· < ·)) (hk : Seq.Kpt (fun i => i = g) w0 W)
    (hcmp : CmpAt cf enc gc lb g w0) (eg : ∀ args w, (callFunc gc args).run Try.prog w = .ok (.enter gc args) w) (hform : ∀ x, ∃ A m k, enc x = .slice A m k) :
    Calls Try.prog 79 #[.slice (some ⟨g, 0, none⟩) n c, .int .i64 a, .int .i64 b, .func (.func gc) #[] lb] W fun e W' => e = .returned (.tuple #[]) ∧
      ∃ s', s'.Perm s ∧ s'.Pairwise (Lt cf) ∧ Seq.Kpt (fun i => i = g) W W' ∧ El enc rest g (p ++ s' ++ q) W' := by
  have hlen : a + s.length + q.length = n := by rw [← hn, ← hp]; simp; omega
  clear hn
  go_enter Try.func79, Try.ntmps79
  go_wp2_with fail
  go_loopw [8] (fun i wr => ∃ m im : Nat, i = .int .i64 (im : Int) ∧ a + m = im ∧ 1 ≤ m ∧ m ≤ s.length + 1 ∧ (∃ s1, s1.Perm (s.take m) ∧ s1.Pairwise (Lt cf) ∧ El enc rest g (p ++ (s1 ++ s.drop m) ++ q) wr) ∧ Seq.Kpt (fun i => i = g) W wr) (fun i _ => b + 1 - (intOf i).toNat)
  case atStart =>
    refine ⟨1, a + 1, by go_num, rfl, by omega, by omega, ⟨s.take 1, List.Perm.refl _, ?_, by rw [List.take_append_drop]; exact hx⟩, Seq.Kpt.refl _ _⟩
    rcases s with _ | ⟨x, s⟩ <;> simp
  case round =>
    obtain ⟨m, im, rfl, him, hm1, hm2, ⟨s1, hpm, hpw, hE⟩, hkr⟩ := hrel
    by_cases hlt : m < s.length
    · have hlz : (im : Int) < (b : Int) := by omega
      obtain ⟨x, hd, ht⟩ := drop_cons hlt
      rw [hd] at hE
      go_wp2_with fail
      have hml : s1.length = m := by rw [hpm.length_eq, List.length_take]; omega
      have hxb : ∀ y ∈ s1, y < x := by
        intro y hy
        have h1 : y ∈ s.take m := hpm.mem_iff.1 hy
        have h2 : (s.take m ++ x :: s.drop (m + 1)).Pairwise (· < ·) := by rw [← hd, List.take_append_drop]; exact hasc
        exact (List.pairwise_append.1 h2).2.2 y h1 x (by simp)
      obtain ⟨R, hR⟩ : ∃ R, s.drop (m + 1) = R := ⟨_, rfl⟩
      have hRl : R.length + (m + 1) = s.length := by rw [← hR, List.length_drop]; omega
      rw [hR] at hE
      have HT := Lib.hid ht
      have HD := Lib.hid hd
      have HPM := Lib.hid hpm
      clear ht hd hpm
      have fin : ∀ u v : List Nat, s1 = u ++ v → (∀ y ∈ v, Lt cf x y) → (∀ y ∈ u, Lt cf y x) → ∃ s2 : List Nat, s2 = u ++ x :: v ∧ s2.Perm (s.take (m + 1)) ∧ s2.Pairwise (Lt cf) := by
        intro u v huv hv hu
        have hpw' := hpw
        rw [huv] at hpw'
        refine ⟨_, rfl, ?_, ?_⟩
        · rw [HT.out]
          refine List.perm_middle.trans ?_
          rw [← huv]
          exact (List.Perm.cons x HPM.out).trans (List.perm_append_singleton x _).symm
        · refine pw_append (List.pairwise_append.1 hpw').1 (List.pairwise_cons.2 ⟨hv, (List.pairwise_append.1 hpw').2.1⟩) ?_
          intro y hy z hz
          rcases List.mem_cons.1 hz with hz | hz
          · rw [hz]; exact hu y hy
          · exact (List.pairwise_append.1 hpw').2.2 y hy z hz
      have FIN := Lib.hid fin
      clear fin
      go_loopw [9] (fun j wq => ∃ (u v : List Nat) (jm : Nat), j = .int .i64 (jm : Int) ∧ a + u.length = jm ∧ s1 = u ++ v ∧ (∀ y ∈ v, Lt cf x y) ∧ El enc rest g (p ++ (u ++ x :: (v ++ R)) ++ q) wq ∧ Seq.Kpt (fun i => i = g) W wq) (fun j _ => (intOf j).toNat)
      case atStart => exact ⟨s1, [], im, rfl, by rw [hml]; exact him, by simp, by simp, hE.cast (by simp), hkr⟩
      case round =>
        obtain ⟨u, v, jm, rfl, hjm, huv, hv, hE2, hk2⟩ := hrel
        rcases snoc_cases u with rfl | ⟨u', y, rfl⟩
        · obtain rfl : a = jm := by simpa using hjm
          have hg0 : decide ((a : Int) > (a : Int)) = false := by simp
          go_wp2_with fail
          refine (wpIn_wide (n := 0)).1 ?_
          refine wpIn_region_R (l := 0) 17 (S := fun _ => True) (by kernel_rfl) trivial (fun hS0 => ?_)
          refine wpAnyR_take (i := 0) (oi := ⟨some 18, _, _, _, _, _⟩) (v := ?_) (by kernel_rfl) (by kernel_rfl) rfl (by kernel_rfl) (by kernel_rfl) (by kernel_rfl) (fun _ _ _ h => h) (Or.inl ⟨by rfl, ?_⟩) (by assumption) ?_
          rotate_left
          · intro w hSw; (try dsimp only at hSw); (try go_split_ands); go_simp; (try (with_reducible rfl))
          (try simp only [Act.put, List.setIfInBounds_toArray, List.set_cons_zero, List.set_cons_succ])
          refine wpAnyR_take (i := 1) (oi := ⟨some 19, _, _, _, _, _⟩) (v := ?_) (by kernel_rfl) (by kernel_rfl) rfl (by kernel_rfl) (by kernel_rfl) (by kernel_rfl) (fun _ _ _ h => h) (Or.inl ⟨by rfl, ?_⟩) (by assumption) ?_
          rotate_left
          · intro w hSw; (try dsimp only at hSw); (try go_split_ands); go_simp; (try (with_reducible rfl))
          (try simp only [Act.put, List.setIfInBounds_toArray, List.set_cons_zero, List.set_cons_succ])
          refine wpAnyR_take (i := 2) (oi := ⟨some 20, _, _, _, _, _⟩) (v := ?_) (by kernel_rfl) (by kernel_rfl) rfl (by kernel_rfl) (by kernel_rfl) (by kernel_rfl) (fun _ _ _ h => h) (Or.inl ⟨by rfl, ?_⟩) (by assumption) ?_
          rotate_left
          · intro w hSw; (try dsimp only at hSw); (try go_split_ands); go_simp; (try (with_reducible rfl))
          (try simp only [Act.put, List.setIfInBounds_toArray, List.set_cons_zero, List.set_cons_succ])
          refine wpAnyR_take (i := 3) (oi := ⟨some 21, _, _, _, _, _⟩) (v := ?_) (by kernel_rfl) (by kernel_rfl) rfl (by kernel_rfl) (by kernel_rfl) (by kernel_rfl) (fun _ _ _ h => h) (Or.inl ⟨by rfl, ?_⟩) (by assumption) ?_
          rotate_left
          · intro w hSw; (try dsimp only at hSw); (try go_split_ands); go_simp; (try (with_reducible rfl))
          (try simp only [Act.put, List.setIfInBounds_toArray, List.set_cons_zero, List.set_cons_succ])
          refine wpAnyR_take (i := 4) (oi := ⟨some 22, _, _, _, _, _⟩) (v := undef) (by kernel_rfl) (by kernel_rfl) rfl (by kernel_rfl) (by kernel_rfl) (by kernel_rfl) (fun _ _ _ h => h) (Or.inr ⟨by rfl, rfl⟩) (by assumption) ?_
          (try simp only [Act.put, List.setIfInBounds_toArray, List.set_cons_zero, List.set_cons_succ])
          refine wpAnyR_take (i := 5) (oi := ⟨some 23, _, _, _, _, _⟩) (v := undef) (by kernel_rfl) (by kernel_rfl) rfl (by kernel_rfl) (by kernel_rfl) (by kernel_rfl) (fun _ _ _ h => h) (Or.inr ⟨by rfl, rfl⟩) (by assumption) ?_
          (try simp only [Act.put, List.setIfInBounds_toArray, List.set_cons_zero, List.set_cons_succ])
          refine wpAnyR_take (i := 6) (oi := ⟨some 24, _, _, _, _, _⟩) (v := undef) (by kernel_rfl) (by kernel_rfl) rfl (by kernel_rfl) (by kernel_rfl) (by kernel_rfl) (fun _ _ _ h => h) (Or.inr ⟨by rfl, rfl⟩) (by assumption) ?_
          (try simp only [Act.put, List.setIfInBounds_toArray, List.set_cons_zero, List.set_cons_succ])
          refine wpAnyR_take (i := 7) (oi := ⟨some 25, _, _, _, _, _⟩) (v := undef) (by kernel_rfl) (by kernel_rfl) rfl (by kernel_rfl) (by kernel_rfl) (by kernel_rfl) (fun _ _ _ h => h) (Or.inr ⟨by rfl, rfl⟩) (by assumption) ?_
          (try simp only [Act.put, List.setIfInBounds_toArray, List.set_cons_zero, List.set_cons_succ])
          refine wpAnyR_take (i := 8) (oi := ⟨some 26, _, _, _, _, _⟩) (v := undef) (by kernel_rfl) (by kernel_rfl) rfl (by kernel_rfl) (by kernel_rfl) (by kernel_rfl) (fun _ _ _ h => h) (Or.inr ⟨by rfl, rfl⟩) (by assumption) ?_
          (try simp only [Act.put, List.setIfInBounds_toArray, List.set_cons_zero, List.set_cons_succ])
          refine wpAnyR_take (i := 9) (oi := ⟨some 27, _, _, _, _, _⟩) (v := undef) (by kernel_rfl) (by kernel_rfl) rfl (by kernel_rfl) (by kernel_rfl) (by kernel_rfl) (fun _ _ _ h => h) (Or.inr ⟨by rfl, rfl⟩) (by assumption) ?_
          (try simp only [Act.put, List.setIfInBounds_toArray, List.set_cons_zero, List.set_cons_succ])
          refine wpAnyR_take (i := 10) (oi := ⟨some 28, _, _, _, _, _⟩) (v := undef) (by kernel_rfl) (by kernel_rfl) rfl (by kernel_rfl) (by kernel_rfl) (by kernel_rfl) (fun _ _ _ h => h) (Or.inr ⟨by rfl, rfl⟩) (by assumption) ?_
          (try simp only [Act.put, List.setIfInBounds_toArray, List.set_cons_zero, List.set_cons_succ])
          refine wpAnyR_take (i := 11) (oi := ⟨some 29, _, _, _, _, _⟩) (v := undef) (by kernel_rfl) (by kernel_rfl) rfl (by kernel_rfl) (by kernel_rfl) (by kernel_rfl) (fun _ _ _ h => h) (Or.inr ⟨by rfl, rfl⟩) (by assumption) ?_
          (try simp only [Act.put, List.setIfInBounds_toArray, List.set_cons_zero, List.set_cons_succ])
          refine wpAnyR_take (i := 12) (oi := ⟨some 30, _, _, _, _, _⟩) (v := undef) (by kernel_rfl) (by kernel_rfl) rfl (by kernel_rfl) (by kernel_rfl) (by kernel_rfl) (fun _ _ _ h => h) (Or.inr ⟨by rfl, rfl⟩) (by assumption) ?_
          (try simp only [Act.put, List.setIfInBounds_toArray, List.set_cons_zero, List.set_cons_succ])
          refine wpAnyR_take (i := 13) (oi := ⟨some 31, _, _, _, _, _⟩) (v := undef) (by kernel_rfl) (by kernel_rfl) rfl (by kernel_rfl) (by kernel_rfl) (by kernel_rfl) (fun _ _ _ h => h) (Or.inr ⟨by rfl, rfl⟩) (by assumption) ?_
          (try simp only [Act.put, List.setIfInBounds_toArray, List.set_cons_zero, List.set_cons_succ])
          refine wpAnyR_take (i := 14) (oi := ⟨some 32, _, _, _, _, _⟩) (v := undef) (by kernel_rfl) (by kernel_rfl) rfl (by kernel_rfl) (by kernel_rfl) (by kernel_rfl) (fun _ _ _ h => h) (Or.inr ⟨by rfl, rfl⟩) (by assumption) ?_
          (try simp only [Act.put, List.setIfInBounds_toArray, List.set_cons_zero, List.set_cons_succ])
          refine wpAnyR_take (i := 15) (oi := ⟨some 33, _, _, _, _, _⟩) (v := undef) (by kernel_rfl) (by kernel_rfl) rfl (by kernel_rfl) (by kernel_rfl) (by kernel_rfl) (fun _ _ _ h => h) (Or.inr ⟨by rfl, rfl⟩) (by assumption) ?_
          (try simp only [Act.put, List.setIfInBounds_toArray, List.set_cons_zero, List.set_cons_succ])
          refine wpAnyR_take (i := 16) (oi := ⟨some 34, _, _, _, _, _⟩) (v := ?_) (by kernel_rfl) (by kernel_rfl) rfl (by kernel_rfl) (by kernel_rfl) (by kernel_rfl) (fun _ _ _ h => h) (Or.inl ⟨by rfl, ?_⟩) (by assumption) ?_
          rotate_left
          · intro w hSw; (try dsimp only at hSw); (try go_split_ands); go_simp; (try (with_reducible rfl))
          (try simp only [Act.put, List.setIfInBounds_toArray, List.set_cons_zero, List.set_cons_succ])
          refine wpAnyR_done (by kernel_rfl) ?_ _
          go_wp2
          go_roundw
          case rel =>
            obtain ⟨s2, he2, hp2, hw2⟩ := FIN.out [] v huv hv (by simp)
            exact ⟨m + 1, im + 1, by go_num, by omega, by omega, by omega, ⟨s2, hp2, hw2, by rw [hR, he2]; exact El.cast hE2 (by simp)⟩, hk2.trans (Seq.Kpt.drew _ _) (fun _ _ h => h.elim id id)⟩
          case measure => simp [intOf]; omega
        · obtain ⟨J, hJ⟩ : ∃ J : Nat, a + u'.length = J := ⟨_, rfl⟩
          obtain ⟨I, hI⟩ : ∃ I : Nat, J + 1 = I := ⟨_, rfl⟩
          obtain rfl : I = jm := by rw [← hjm, ← hI, ← hJ]; simp; omega
          have hg1 : (a : Int) < (I : Int) := by omega
          have hg2 : a < I := by omega
          have hj1 : (I : Int) - 1 = (J : Int) := by omega
          have hlu : u'.length + 1 + v.length = m := by rw [← hml, huv]; simp; omega
          have hIn : I < n := by omega
          have hJn : J < n := by omega
          have hwJ : IntKind.i64.wrap (J : Int) = (J : Int) := by rw [IntKind.wrap_i64]; omega
          have hIn' : (I : Int) < (n : Int) := by omega
          have hJn' : (J : Int) < (n : Int) := by omega
          have c1 : wr.cell? ⟨g, I, none⟩ = some (enc x) := (hE2.cast (ys := (p ++ u' ++ [y]) ++ x :: (v ++ R ++ q)) (by simp)).at (by simp; omega)
          have c0 : wr.cell? ⟨g, J, none⟩ = some (enc y) := (hE2.cast (ys := (p ++ u') ++ y :: (x :: (v ++ R ++ q))) (by simp)).at (by simp; omega)
          obtain ⟨z, hz⟩ : ∃ z, cf x y = z := ⟨_, rfl⟩
          go_wp2_with fail
          refine (wpIn_wide (n := 0)).1 ?_
          refine wpIn_region_R (l := 0) 17 (S := fun V => V.cell? ⟨g, I, none⟩ = some (enc x) ∧ V.cell? ⟨g, J, none⟩ = some (enc y)) (by kernel_rfl) ⟨c1, c0⟩ (fun hS0 => ?_)
          refine wpAnyR_take (i := 0) (oi := ⟨some 18, _, _, _, _, _⟩) (v := ?_) (by kernel_rfl) (by kernel_rfl) rfl (by kernel_rfl) (by kernel_rfl) (by kernel_rfl) (fun _ _ _ h => h) (Or.inl ⟨by rfl, ?_⟩) (by assumption) ?_
          rotate_left
          · intro w hSw; (try dsimp only at hSw); (try go_split_ands); go_simp; (try (with_reducible rfl))
          (try simp only [Act.put, List.setIfInBounds_toArray, List.set_cons_zero, List.set_cons_succ])
          refine wpAnyR_take (i := 1) (oi := ⟨some 19, _, _, _, _, _⟩) (v := ?_) (by kernel_rfl) (by kernel_rfl) rfl (by kernel_rfl) (by kernel_rfl) (by kernel_rfl) (fun _ _ _ h => h) (Or.inl ⟨by rfl, ?_⟩) (by assumption) ?_
          rotate_left
          · intro w hSw; (try dsimp only at hSw); (try go_split_ands); go_simp; (try (with_reducible rfl))
          (try simp only [Act.put, List.setIfInBounds_toArray, List.set_cons_zero, List.set_cons_succ])
          refine wpAnyR_take (i := 2) (oi := ⟨some 20, _, _, _, _, _⟩) (v := ?_) (by kernel_rfl) (by kernel_rfl) rfl (by kernel_rfl) (by kernel_rfl) (by kernel_rfl) (fun _ _ _ h => h) (Or.inl ⟨by rfl, ?_⟩) (by assumption) ?_
          rotate_left
          · intro w hSw; (try dsimp only at hSw); (try go_split_ands); go_simp; (try (with_reducible rfl))
          (try simp only [Act.put, List.setIfInBounds_toArray, List.set_cons_zero, List.set_cons_succ])
          refine wpAnyR_take (i := 3) (oi := ⟨some 21, _, _, _, _, _⟩) (v := ?_) (by kernel_rfl) (by kernel_rfl) rfl (by kernel_rfl) (by kernel_rfl) (by kernel_rfl) (fun _ _ _ h => h) (Or.inl ⟨by rfl, ?_⟩) (by assumption) ?_
          rotate_left
          · intro w hSw; (try dsimp only at hSw); (try go_split_ands); go_simp; (try (with_reducible rfl))
          (try simp only [Act.put, List.setIfInBounds_toArray, List.set_cons_zero, List.set_cons_succ])
          refine wpAnyR_take (i := 4) (oi := ⟨some 22, _, _, _, _, _⟩) (v := ?_) (by kernel_rfl) (by kernel_rfl) rfl (by kernel_rfl) (by kernel_rfl) (by kernel_rfl) (fun _ _ _ h => h) (Or.inl ⟨by rfl, ?_⟩) (by assumption) ?_
          rotate_left
          · intro w hSw; (try dsimp only at hSw); (try go_split_ands); go_simp; (try (with_reducible rfl))
          (try simp only [Act.put, List.setIfInBounds_toArray, List.set_cons_zero, List.set_cons_succ])
          refine wpAnyR_take (i := 5) (oi := ⟨some 23, _, _, _, _, _⟩) (v := ?_) (by kernel_rfl) (by kernel_rfl) rfl (by kernel_rfl) (by kernel_rfl) (by kernel_rfl) (fun _ _ _ h => h) (Or.inl ⟨by rfl, ?_⟩) (by assumption) ?_
          rotate_left
          · intro w hSw; (try dsimp only at hSw); (try go_split_ands); go_simp; (try (with_reducible rfl))
          (try simp only [Act.put, List.setIfInBounds_toArray, List.set_cons_zero, List.set_cons_succ])
          refine wpAnyR_take (i := 6) (oi := ⟨some 24, _, _, _, _, _⟩) (v := ?_) (by kernel_rfl) (by kernel_rfl) rfl (by kernel_rfl) (by kernel_rfl) (by kernel_rfl) (fun _ _ _ h => h) (Or.inl ⟨by rfl, ?_⟩) (by assumption) ?_
          rotate_left
          · intro w hSw; (try dsimp only at hSw); (try go_split_ands); go_simp; (try (with_reducible rfl))
          (try simp only [Act.put, List.setIfInBounds_toArray, List.set_cons_zero, List.set_cons_succ])
          refine wpAnyR_take (i := 7) (oi := ⟨some 25, _, _, _, _, _⟩) (v := ?_) (by kernel_rfl) (by kernel_rfl) rfl (by kernel_rfl) (by kernel_rfl) (by kernel_rfl) (fun _ _ _ h => h) (Or.inl ⟨by rfl, ?_⟩) (by assumption) ?_
          rotate_left
          · intro w hSw; (try dsimp only at hSw); (try go_split_ands); go_simp; (try (with_reducible rfl))
          (try simp only [Act.put, List.setIfInBounds_toArray, List.set_cons_zero, List.set_cons_succ])
          refine wpAnyR_take (i := 8) (oi := ⟨some 26, _, _, _, _, _⟩) (v := ?_) (by kernel_rfl) (by kernel_rfl) rfl (by kernel_rfl) (by kernel_rfl) (by kernel_rfl) (fun _ _ _ h => h) (Or.inl ⟨by rfl, ?_⟩) (by assumption) ?_
          rotate_left
          · intro w hSw; (try dsimp only at hSw); (try go_split_ands); go_simp; (try (with_reducible rfl))
          (try simp only [Act.put, List.setIfInBounds_toArray, List.set_cons_zero, List.set_cons_succ])
          refine wpAnyR_take (i := 9) (oi := ⟨some 27, _, _, _, _, _⟩) (v := ?_) (by kernel_rfl) (by kernel_rfl) rfl (by kernel_rfl) (by kernel_rfl) (by kernel_rfl) (fun _ _ _ h => h) (Or.inl ⟨by rfl, ?_⟩) (by assumption) ?_
          rotate_left
          · intro w hSw; (try dsimp only at hSw); (try go_split_ands); go_simp; (try (with_reducible rfl))
          (try simp only [Act.put, List.setIfInBounds_toArray, List.set_cons_zero, List.set_cons_succ])
          refine wpAnyR_take (i := 10) (oi := ⟨some 28, _, _, _, _, _⟩) (v := ?_) (by kernel_rfl) (by kernel_rfl) rfl (by kernel_rfl) (by kernel_rfl) (by kernel_rfl) (fun _ _ _ h => h) (Or.inl ⟨by rfl, ?_⟩) (by assumption) ?_
          rotate_left
          · intro w hSw; (try dsimp only at hSw); (try go_split_ands); go_simp; (try (with_reducible rfl))
          (try simp only [Act.put, List.setIfInBounds_toArray, List.set_cons_zero, List.set_cons_succ])
          refine wpAnyR_take (i := 11) (oi := ⟨some 29, _, _, _, _, _⟩) (v := ?_) (by kernel_rfl) (by kernel_rfl) rfl (by kernel_rfl) (by kernel_rfl) (by kernel_rfl) (fun _ _ _ h => h) (Or.inl ⟨by rfl, ?_⟩) (by assumption) ?_
          rotate_left
          · intro w hSw; (try dsimp only at hSw); (try go_split_ands); go_simp; (try (with_reducible rfl))
          (try simp only [Act.put, List.setIfInBounds_toArray, List.set_cons_zero, List.set_cons_succ])
          refine wpAnyR_take (i := 12) (oi := ⟨some 30, _, _, _, _, _⟩) (v := ?_) (by kernel_rfl) (by kernel_rfl) rfl (by kernel_rfl) (by kernel_rfl) (by kernel_rfl) (fun _ _ _ h => h) (Or.inl ⟨by rfl, ?_⟩) (by assumption) ?_
          rotate_left
          · intro w hSw; (try dsimp only at hSw); (try go_split_ands); go_simp; (try (with_reducible rfl))
          (try simp only [Act.put, List.setIfInBounds_toArray, List.set_cons_zero, List.set_cons_succ])
          refine wpAnyR_take (i := 13) (oi := ⟨some 31, _, _, _, _, _⟩) (v := ?_) (by kernel_rfl) (by kernel_rfl) rfl (by kernel_rfl) (by kernel_rfl) (by kernel_rfl) (fun _ _ _ h => h) (Or.inl ⟨by rfl, ?_⟩) (by assumption) ?_
          rotate_left
          · intro w hSw; (try dsimp only at hSw); (try go_split_ands); go_simp; (try (with_reducible rfl))
          (try simp only [Act.put, List.setIfInBounds_toArray, List.set_cons_zero, List.set_cons_succ])
          refine wpAnyR_one (i := 14) (o := ⟨some 32, _, _, _, _, _⟩) (by kernel_rfl) (by kernel_rfl) rfl (fun K hK => ?_)
          go_simp
          refine (hcmp x y wr.drew ((hk.trans hk2 (fun _ _ h => h.elim id id)).trans (Seq.Kpt.drew _ _) (fun _ _ h => h.elim id id))).mono ?_
          rintro e w5 ⟨rfl, hb5⟩
          rw [hz]
          have hb5' : Below wr.heap.size wr w5 := (below_drew (Below.refl _ wr)).trans hb5
          have hE5 := El.kept hE2 hb5'
          have hk5 := hk2.trans (Seq.Kpt.of_new (fun i => i = g) hb5') (fun _ _ h => h.elim id id)
          have c15 : w5.cell? ⟨g, I, none⟩ = some (enc x) := (hE5.cast (ys := (p ++ u' ++ [y]) ++ x :: (v ++ R ++ q)) (by simp)).at (by simp; omega)
          have c05 : w5.cell? ⟨g, J, none⟩ = some (enc y) := (hE5.cast (ys := (p ++ u') ++ y :: (x :: (v ++ R ++ q))) (by simp)).at (by simp; omega)
          have c55 := And.intro c15 c05
          (try dsimp only)
          refine hK.out _ _ (.inr c55) ?_
          clear hK K
          (try simp only [Act.put, List.setIfInBounds_toArray, List.set_cons_zero, List.set_cons_succ])
          by_cases hz0 : z < 0
          ·
            refine wpAnyR_take (i := 15) (oi := ⟨some 33, _, _, _, _, _⟩) (v := ?_) (by kernel_rfl) (by kernel_rfl) rfl (by kernel_rfl) (by kernel_rfl) (by kernel_rfl) (fun _ _ _ h => h) (Or.inl ⟨by rfl, ?_⟩) (by assumption) ?_
            rotate_left
            · intro w hSw; (try dsimp only at hSw); (try go_split_ands); go_simp; (try (with_reducible rfl))
            (try simp only [Act.put, List.setIfInBounds_toArray, List.set_cons_zero, List.set_cons_succ])
            refine wpAnyR_take (i := 16) (oi := ⟨some 34, _, _, _, _, _⟩) (v := ?_) (by kernel_rfl) (by kernel_rfl) rfl (by kernel_rfl) (by kernel_rfl) (by kernel_rfl) (fun _ _ _ h => h) (Or.inl ⟨by rfl, ?_⟩) (by assumption) ?_
            rotate_left
            · intro w hSw; (try dsimp only at hSw); (try go_split_ands); go_simp; (try (with_reducible rfl))
            (try simp only [Act.put, List.setIfInBounds_toArray, List.set_cons_zero, List.set_cons_succ])
            refine wpAnyR_done (by kernel_rfl) ?_ _
            go_wp2_with fail
            obtain ⟨Ax, nx, cx, hex⟩ := hform x
            obtain ⟨Ay, ny, cy, hey⟩ := hform y
            rw [hex, hey]
            have d1 : w5.drew.cell? ⟨g, I, none⟩ = some (.slice Ax nx cx) := by rw [← hex]; exact c15
            have d0 : w5.drew.cell? ⟨g, J, none⟩ = some (.slice Ay ny cy) := by rw [← hey]; exact c05
            have q1 : w5.drew.frozen? ⟨g, I, none⟩ = false := hE5.frozen I
            have q0 : w5.drew.frozen? ⟨g, J, none⟩ = false := hE5.frozen J
            have mixed : Try.prog.follows .mixedOrders = true := by kernel_rfl
            have hS1 : El enc rest g ((p ++ u' ++ [y]) ++ y :: (v ++ R ++ q)) (w5.setCell ⟨g, I, none⟩ (enc y)) := El.set (hE5.cast (ys := (p ++ u' ++ [y]) ++ x :: (v ++ R ++ q)) (by simp)) (by simp; omega)
            have hS2 : El enc rest g ((p ++ u') ++ x :: (y :: (v ++ R ++ q))) ((w5.setCell ⟨g, I, none⟩ (enc y)).setCell ⟨g, J, none⟩ (enc x)) := El.set (hS1.cast (ys := (p ++ u') ++ y :: (y :: (v ++ R ++ q))) (by simp)) (by simp; omega)
            have d2 : (w5.setCell ⟨g, I, none⟩ (enc y)).drew.cell? ⟨g, J, none⟩ = some (enc y) := (hS1.cast (ys := (p ++ u') ++ y :: (y :: (v ++ R ++ q))) (by simp)).at (by simp; omega)
            have q2 : (w5.setCell ⟨g, I, none⟩ (enc y)).drew.frozen? ⟨g, J, none⟩ = false := hS1.frozen J
            have hk6 : Seq.Kpt (fun i => i = g) W ((w5.setCell ⟨g, I, none⟩ (enc y)).setCell ⟨g, J, none⟩ (enc x)) := (hk5.trans (Seq.Kpt.setCell w5 ⟨g, I, none⟩ (enc y)) (fun _ _ h => h.elim id id)).trans (Seq.Kpt.setCell _ ⟨g, J, none⟩ (enc x)) (fun _ _ h => h.elim id id)
            rw [hey] at d2 q2
            have HS2 := Lib.hid (And.intro hS2 hk6)
            clear hS1 hS2 hk6
            have hJI : J ≠ I := by omega
            have hIJ : I ≠ J := by omega
            clear c15 c05 c55 c1 c0 hS0
            have HEX := Lib.hid hex
            have HEY := Lib.hid hey
            clear hex hey
            go_big_region_o
            go_wp2
            go_roundw
            case rel =>
              have h6 := HS2.out
              rw [HEX.out, HEY.out] at h6
              have hxy : Lt cf x y := Lt.of_neg (by rw [hz]; exact hz0)
              have hpw2 := hpw
              rw [huv] at hpw2
              refine ⟨u', y :: v, J, rfl, hJ, by rw [huv]; simp, ?_, El.cast h6.1 (by simp), h6.2.trans (Seq.Kpt.drew _ _) (fun _ _ h => h.elim id id)⟩
              intro t ht
              rcases List.mem_cons.1 ht with ht | ht
              · rw [ht]; exact hxy
              · exact hv t ht
            case measure => simp [intOf]; omega
          ·
            refine wpAnyR_take (i := 15) (oi := ⟨some 33, _, _, _, _, _⟩) (v := ?_) (by kernel_rfl) (by kernel_rfl) rfl (by kernel_rfl) (by kernel_rfl) (by kernel_rfl) (fun _ _ _ h => h) (Or.inl ⟨by rfl, ?_⟩) (by assumption) ?_
            rotate_left
            · intro w hSw; (try dsimp only at hSw); (try go_split_ands); go_simp; (try (with_reducible rfl))
            (try simp only [Act.put, List.setIfInBounds_toArray, List.set_cons_zero, List.set_cons_succ])
            refine wpAnyR_take (i := 16) (oi := ⟨some 34, _, _, _, _, _⟩) (v := ?_) (by kernel_rfl) (by kernel_rfl) rfl (by kernel_rfl) (by kernel_rfl) (by kernel_rfl) (fun _ _ _ h => h) (Or.inl ⟨by rfl, ?_⟩) (by assumption) ?_
            rotate_left
            · intro w hSw; (try dsimp only at hSw); (try go_split_ands); go_simp; (try (with_reducible rfl))
            (try simp only [Act.put, List.setIfInBounds_toArray, List.set_cons_zero, List.set_cons_succ])
            refine wpAnyR_done (by kernel_rfl) ?_ _
            go_wp2
            go_roundw
            case rel =>
              have hyx : Lt cf y x := Lt.of_not hcf (hxb y (by rw [huv]; simp)) (by rw [hz]; exact hz0)
              have hpu : (u' ++ [y]).Pairwise (Lt cf) := by rw [huv] at hpw; exact (List.pairwise_append.1 hpw).1
              obtain ⟨s2, he2, hp2, hw2⟩ := FIN.out (u' ++ [y]) v huv hv (all_ahead hcf hpu hyx)
              exact ⟨m + 1, im + 1, by go_num, by omega, by omega, by omega, ⟨s2, hp2, hw2, by rw [hR, he2]; exact El.cast hE5 (by simp)⟩, hk5⟩
            case measure => simp [intOf]; omega
    · have hlz : ¬ (im : Int) < (b : Int) := by omega
      rw [List.drop_of_length_le (by omega), List.append_nil] at hE
      rw [List.take_of_length_le (by omega)] at hpm
      go_wp2
      go_end0
      exact ⟨rfl, s1, hpm, hpw, hkr, hE.cast (by simp)⟩

/-- An exchange, the lower place written first. -/
theorem El.swapLo {enc : Nat → Value} {rest : List Value} {g : Nat} {A B C : List Nat} {x y : Nat} {W : World} (h : El enc rest g (A ++ x :: (B ++ y :: C)) W) {I J : Nat} (hI : A.length = I) (hJ : I + 1 + B.length = J) :
    W.cell? ⟨g, I, none⟩ = some (enc x) ∧ W.cell? ⟨g, J, none⟩ = some (enc y) ∧ (W.setCell ⟨g, I, none⟩ (enc y)).cell? ⟨g, J, none⟩ = some (enc y) ∧ (W.setCell ⟨g, I, none⟩ (enc y)).frozen? ⟨g, J, none⟩ = false ∧
      El enc rest g (A ++ y :: (B ++ x :: C)) ((W.setCell ⟨g, I, none⟩ (enc y)).setCell ⟨g, J, none⟩ (enc x)) := by
  have h1 : El enc rest g (A ++ y :: (B ++ y :: C)) (W.setCell ⟨g, I, none⟩ (enc y)) := El.set h hI
  have h2 := h1.cast (ys := (A ++ y :: B) ++ y :: C) (by simp)
  have hl : (A ++ y :: B).length = J := by simp; omega
  have hl' : (A ++ x :: B).length = J := by simp; omega
  exact ⟨h.at hI, (h.cast (ys := (A ++ x :: B) ++ y :: C) (by simp)).at hl', h2.at hl, h2.frozen J, (El.set h2 hl).cast (by simp)⟩
/-- .. the upper one first. -/
theorem El.swapHi {enc : Nat → Value} {rest : List Value} {g : Nat} {A B C : List Nat} {x y : Nat} {W : World} (h : El enc rest g (A ++ x :: (B ++ y :: C)) W) {I J : Nat} (hI : A.length = I) (hJ : I + 1 + B.length = J) :
    W.cell? ⟨g, I, none⟩ = some (enc x) ∧ W.cell? ⟨g, J, none⟩ = some (enc y) ∧ (W.setCell ⟨g, J, none⟩ (enc x)).cell? ⟨g, I, none⟩ = some (enc x) ∧ (W.setCell ⟨g, J, none⟩ (enc x)).frozen? ⟨g, I, none⟩ = false ∧
      El enc rest g (A ++ y :: (B ++ x :: C)) ((W.setCell ⟨g, J, none⟩ (enc x)).setCell ⟨g, I, none⟩ (enc y)) := by
  have hl' : (A ++ x :: B).length = J := by simp; omega
  have h1 : El enc rest g ((A ++ x :: B) ++ x :: C) (W.setCell ⟨g, J, none⟩ (enc x)) := El.set (h.cast (ys := (A ++ x :: B) ++ y :: C) (by simp)) hl'
  have h2 := h1.cast (ys := A ++ x :: (B ++ x :: C)) (by simp)
  exact ⟨h.at hI, (h.cast (ys := (A ++ x :: B) ++ y :: C) (by simp)).at hl', h2.at hI, h2.frozen I, El.set h2 hI⟩

set_option maxRecDepth 100000 in
set_option maxHeartbeats 2000000 in
theorem swr_any (n c a b k g : Nat) (cv : Value) (enc : Nat → Value) (rest : List Value) (p A m B q : List Nat) (W : World)
    (hx : El enc rest g (p ++ A ++ m ++ B ++ q) W) (hp : p.length = a) (hA : A.length = k) (hb : a + k + m.length = b) (hB : B.length = k) (hn : (p ++ A ++ m ++ B ++ q).length = n) (hn2 : n ≤ 5864062014805)
    (hform : ∀ x, ∃ A m k, enc x = .slice A m k) (hcv : ∃ gc lb, cv = .func (.func gc) #[] lb) :
    Calls Try.prog 89 #[.slice (some ⟨g, 0, none⟩) n c, .int .i64 a, .int .i64 b, .int .i64 k, cv] W fun e W' => e = .returned (.tuple #[]) ∧
      Seq.Kpt (fun i => i = g) W W' ∧ El enc rest g (p ++ B ++ m ++ A ++ q) W' := by
  have hlen : b + k + q.length = n := by rw [← hn]; simp; omega
  clear hn
  obtain ⟨gc, lb, rfl⟩ := hcv
  have mixed : Try.prog.follows .mixedOrders = true := by kernel_rfl
  go_enter Try.func89, Try.ntmps89
  go_wp2_with fail
  go_loopw [10] (fun iv wr => ∃ (i : Nat) (A1 A2 B1 B2 : List Nat), iv = .int .i64 (i : Int) ∧ A = A1 ++ A2 ∧ B = B1 ++ B2 ∧ A1.length = i ∧ B1.length = i ∧ El enc rest g (p ++ (B1 ++ A2) ++ m ++ (A1 ++ B2) ++ q) wr ∧ Seq.Kpt (fun i => i = g) W wr) (fun iv _ => k - (intOf iv).toNat)
  case atStart => exact ⟨0, [], A, [], B, rfl, rfl, rfl, rfl, rfl, hx.cast (by simp), Seq.Kpt.refl _ _⟩
  case round =>
    obtain ⟨i, A1, A2, B1, B2, rfl, hA12, hB12, hA1, hB1, hE, hk⟩ := hrel
    have lA : A1.length + A2.length = k := by rw [← hA, hA12]; simp
    have lB : B1.length + B2.length = k := by rw [← hB, hB12]; simp
    by_cases hlt : i < k
    · obtain ⟨x, A3, rfl⟩ : ∃ x A3, A2 = x :: A3 := by
        cases A2 with
        | nil => simp at lA; omega
        | cons x A3 => exact ⟨x, A3, rfl⟩
      obtain ⟨y, B3, rfl⟩ : ∃ y B3, B2 = y :: B3 := by
        cases B2 with
        | nil => simp at lB; omega
        | cons y B3 => exact ⟨y, B3, rfl⟩
      have hlz : (i : Int) < (k : Int) := by omega
      obtain ⟨I, hI⟩ : ∃ I : Nat, a + i = I := ⟨_, rfl⟩
      obtain ⟨J, hJ⟩ : ∃ J : Nat, b + i = J := ⟨_, rfl⟩
      have lA3 : A1.length + 1 + A3.length = k := by simp at lA; omega
      have hsw := El.swapLo (x := x) (y := y) (A := p ++ B1) (B := A3 ++ m ++ A1) (C := B3 ++ q) (I := I) (J := J) (hE.cast (by simp)) (by simp; omega) (by simp; omega)
      obtain ⟨Ax, nx, cx, hex⟩ := hform x
      obtain ⟨Ay, ny, cy, hey⟩ := hform y
      rw [hex, hey] at hsw
      obtain ⟨d1, d0, d2, q2, hE2⟩ := hsw
      have hk2 : Seq.Kpt (fun i => i = g) W ((wr.setCell ⟨g, I, none⟩ (.slice Ay ny cy)).setCell ⟨g, J, none⟩ (.slice Ax nx cx)) := (hk.trans (Seq.Kpt.setCell wr ⟨g, I, none⟩ _) (fun _ _ h => h.elim id id)).trans (Seq.Kpt.setCell _ ⟨g, J, none⟩ _) (fun _ _ h => h.elim id id)
      have e1 : wr.drew.cell? ⟨g, I, none⟩ = some (.slice Ax nx cx) := d1
      have e0 : wr.drew.cell? ⟨g, J, none⟩ = some (.slice Ay ny cy) := d0
      have e2 : (wr.setCell ⟨g, I, none⟩ (.slice Ay ny cy)).drew.cell? ⟨g, J, none⟩ = some (.slice Ay ny cy) := d2
      have e3 : (wr.setCell ⟨g, I, none⟩ (.slice Ay ny cy)).drew.frozen? ⟨g, J, none⟩ = false := q2
      have e4 : wr.drew.frozen? ⟨g, I, none⟩ = false := hE.frozen I
      have e5 : wr.drew.frozen? ⟨g, J, none⟩ = false := hE.frozen J
      have n1 : (I : Int) < (n : Int) := by omega
      have n2 : (J : Int) < (n : Int) := by omega
      have n3 : I < n := by omega
      have n4 : J < n := by omega
      have n5 : J ≠ I := by omega
      have n6 : I ≠ J := by omega
      have w1 : IntKind.i64.wrap (I : Int) = (I : Int) := by rw [IntKind.wrap_i64]; omega
      have w2 : IntKind.i64.wrap (J : Int) = (J : Int) := by rw [IntKind.wrap_i64]; omega
      have w3 : (a : Int) + (i : Int) = (I : Int) := by omega
      have w4 : (b : Int) + (i : Int) = (J : Int) := by omega
      have HE2 := Lib.hid (And.intro hE2 hk2)
      clear hE2 hk2 d1 d0 d2 q2 hex hey
      go_wp2_with fail
      go_big_region_o
      go_wp2
      go_roundw
      case rel => exact ⟨i + 1, A1 ++ [x], A3, B1 ++ [y], B3, by go_num, by rw [hA12]; simp, by rw [hB12]; simp, by simp; omega, by simp; omega, El.cast HE2.out.1 (by simp), HE2.out.2.trans (Seq.Kpt.drew _ _) (fun _ _ h => h.elim id id)⟩
      case measure => simp [intOf]; omega
    · have hlz : ¬ (i : Int) < (k : Int) := by omega
      obtain rfl : A2 = [] := List.eq_nil_of_length_eq_zero (by omega)
      obtain rfl : B2 = [] := List.eq_nil_of_length_eq_zero (by omega)
      rw [List.append_nil] at hA12 hB12
      subst hA12 hB12
      go_wp2
      go_end0
      exact ⟨rfl, hk, hE.cast (by simp)⟩
end Go.Proofs.Ytghblnldokpceaa.QV
/- slices.SortStableFunc over rows, walked: rotate. -/
namespace Go.Proofs.Ytghblnldokpceaa.QV
open Go.RowKit Go.Proofs.YtghblnldokpceaaW.PrintWords Go.Proofs.Ytghblnldokpceaa.SeqW Go.Shelf Go.Proofs.Ytghblnldokpceaa.Op Go.Proofs.Ytghblnldokpceaa.Stab
set_option linter.unusedVariables false
set_option linter.unusedSimpArgs false

set_option maxRecDepth 100000 in
set_option maxHeartbeats 2000000 in
theorem rot_any (n c a m b g : Nat) (cv : Value) (enc : Nat → Value) (rest : List Value) (p U V q : List Nat) (W : World)
    (hx : El enc rest g (p ++ U ++ V ++ q) W) (hp : p.length = a) (hU : a + U.length = m) (hV : m + V.length = b) (hU0 : 0 < U.length) (hV0 : 0 < V.length) (hn : (p ++ U ++ V ++ q).length = n) (hn2 : n ≤ 5864062014805)
    (hform : ∀ x, ∃ A m k, enc x = .slice A m k) (hcv : ∃ gc lb, cv = .func (.func gc) #[] lb) :
    Calls Try.prog 87 #[.slice (some ⟨g, 0, none⟩) n c, .int .i64 a, .int .i64 m, .int .i64 b, cv] W fun e W' => e = .returned (.tuple #[]) ∧
      Seq.Kpt (fun i => i = g) W W' ∧ El enc rest g (p ++ V ++ U ++ q) W' := by
  have hlen : b + q.length = n := by rw [← hn]; simp; omega
  clear hn
  have HCV := Lib.hid hcv
  obtain ⟨gc, lb, rfl⟩ := hcv
  have hi0 : (m : Int) - (a : Int) = (U.length : Int) := by omega
  have hj0 : (b : Int) - (m : Int) = (V.length : Int) := by omega
  have wi0 : IntKind.i64.wrap (U.length : Int) = (U.length : Int) := by rw [IntKind.wrap_i64]; omega
  have wj0 : IntKind.i64.wrap (V.length : Int) = (V.length : Int) := by rw [IntKind.wrap_i64]; omega
  go_enter Try.func87, Try.ntmps87
  go_wp2_with fail
  go_loopw [10, 11] (fun iv jv wr => ∃ (i j : Nat) (P U' V' Q : List Nat), iv = .int .i64 (i : Int) ∧ jv = .int .i64 (j : Int) ∧ U'.length = i ∧ V'.length = j ∧ 0 < i ∧ 0 < j ∧ P.length + i = m ∧ m + j + Q.length = n ∧ El enc rest g (P ++ U' ++ V' ++ Q) wr ∧ P ++ V' ++ U' ++ Q = p ++ V ++ U ++ q ∧ Seq.Kpt (fun i => i = g) W wr) (fun iv jv _ => (intOf iv).toNat + (intOf jv).toNat)
  case atStart => exact ⟨U.length, V.length, p, U, V, q, rfl, rfl, rfl, rfl, hU0, hV0, by omega, by omega, hx, rfl, Seq.Kpt.refl _ _⟩
  case round =>
    obtain ⟨i, j, P, U', V', Q, rfl, rfl, hUl, hVl, hi, hj, hPm, hmn, hE, hT, hk⟩ := hrel
    clear hi0 hj0 wi0 wj0
    obtain ⟨s0, hs0⟩ : ∃ s0 : Nat, m - i = s0 := ⟨_, rfl⟩
    have w1 : (m : Int) - (i : Int) = (s0 : Int) := by omega
    have w2 : IntKind.i64.wrap (s0 : Int) = (s0 : Int) := by rw [IntKind.wrap_i64]; omega
    by_cases hij : i = j
    · subst hij
      have hne : ((i : Int) != (i : Int)) = false := by simp
      go_wp2_with fail
      refine (swr_any n c s0 m i g _ enc rest P U' [] V' Q wr (hE.cast (by simp)) (by omega) hUl (by simp; omega) hVl (by simp; omega) hn2 hform ⟨gc, lb, rfl⟩).mono ?_
      rintro e w2 ⟨rfl, hk2, hE2⟩
      go_wp2
      go_end0
      exact ⟨rfl, hk.trans hk2 (fun _ _ h => h.elim id id), hE2.cast (by simpa using hT)⟩
    · have hne : (i : Int) ≠ (j : Int) := by omega
      by_cases hgt : i > j
      · have hgz : (j : Int) < (i : Int) := by omega
        obtain ⟨d, hd⟩ : ∃ d : Nat, i - j = d := ⟨_, rfl⟩
        have w3 : (i : Int) - (j : Int) = (d : Int) := by omega
        have w4 : IntKind.i64.wrap (d : Int) = (d : Int) := by rw [IntKind.wrap_i64]; omega
        obtain ⟨A, R, hAR, hAl⟩ : ∃ A R, U' = A ++ R ∧ A.length = j := ⟨U'.take j, U'.drop j, (List.take_append_drop _ _).symm, by rw [List.length_take]; omega⟩
        have hRl : R.length = d := by rw [hAR] at hUl; simp at hUl; omega
        subst hAR
        go_wp2_with fail
        refine (swr_any n c s0 m j g _ enc rest P A R V' Q wr (hE.cast (by simp)) (by omega) hAl (by omega) hVl (by simp; omega) hn2 hform ⟨gc, lb, rfl⟩).mono ?_
        rintro e w2 ⟨rfl, hk2, hE2⟩
        go_wp2
        go_roundw
        case rel => exact ⟨d, j, P ++ V', R, A, Q, rfl, rfl, hRl, hAl, by omega, hj, by simp; omega, by omega, hE2.cast (by simp), by rw [← hT]; simp, hk.trans hk2 (fun _ _ h => h.elim id id)⟩
        case measure => simp [intOf]; omega
      · have hgz : ¬ (j : Int) < (i : Int) := by omega
        obtain ⟨d, hd⟩ : ∃ d : Nat, j - i = d := ⟨_, rfl⟩
        have w3 : (j : Int) - (i : Int) = (d : Int) := by omega
        have w4 : IntKind.i64.wrap (d : Int) = (d : Int) := by rw [IntKind.wrap_i64]; omega
        obtain ⟨t0, ht0⟩ : ∃ t0 : Nat, m + j = t0 := ⟨_, rfl⟩
        have w5 : (m : Int) + (j : Int) = (t0 : Int) := by omega
        have w6 : IntKind.i64.wrap (t0 : Int) = (t0 : Int) := by rw [IntKind.wrap_i64]; omega
        obtain ⟨t1, ht1⟩ : ∃ t1 : Nat, t0 - i = t1 := ⟨_, rfl⟩
        have w7 : (t0 : Int) - (i : Int) = (t1 : Int) := by omega
        have w8 : IntKind.i64.wrap (t1 : Int) = (t1 : Int) := by rw [IntKind.wrap_i64]; omega
        obtain ⟨R, B, hRB, hRl⟩ : ∃ R B, V' = R ++ B ∧ R.length = d := ⟨V'.take d, V'.drop d, (List.take_append_drop _ _).symm, by rw [List.length_take]; omega⟩
        have hBl : B.length = i := by rw [hRB] at hVl; simp at hVl; omega
        subst hRB
        go_wp2_with fail
        refine (swr_any n c s0 t1 i g _ enc rest P U' R B Q wr (hE.cast (by simp)) (by omega) hUl (by omega) hBl (by simp; omega) hn2 hform ⟨gc, lb, rfl⟩).mono ?_
        rintro e w2 ⟨rfl, hk2, hE2⟩
        go_wp2
        go_roundw
        case rel => exact ⟨i, d, P, B, R, U' ++ Q, rfl, rfl, hBl, hRl, hi, by omega, hPm, by simp; omega, hE2.cast (by simp), by rw [← hT]; simp, hk.trans hk2 (fun _ _ h => h.elim id id)⟩
        case measure => simp [intOf]; omega
end Go.Proofs.Ytghblnldokpceaa.QV
/- slices.SortStableFunc over rows, walked: symMerge. -/
namespace Go.Proofs.Ytghblnldokpceaa.QV
open Go.RowKit Go.Proofs.YtghblnldokpceaaW.PrintWords Go.Proofs.Ytghblnldokpceaa.SeqW Go.Shelf Go.Proofs.Ytghblnldokpceaa.Op Go.Proofs.Ytghblnldokpceaa.Stab
set_option linter.unusedVariables false
set_option linter.unusedSimpArgs false

theorem wrapN {k : Nat} (h : k ≤ 9223372036854775807) : IntKind.i64.wrap (k : Int) = (k : Int) := by rw [IntKind.wrap_i64]; omega
/-- A list at one of its places. -/
theorem at_mid {s : List Nat} {k : Nat} (h : k < s.length) : ∃ x, s = s.take k ++ x :: s.drop (k + 1) ∧ s.drop k = x :: s.drop (k + 1) ∧ s.take (k + 1) = s.take k ++ [x] := by
  obtain ⟨x, h1, h2⟩ := drop_cons h
  exact ⟨x, by rw [← h1, List.take_append_drop], h1, h2⟩
theorem pw_take {s : List Nat} {P : Nat → Nat → Prop} (h : s.Pairwise P) (k : Nat) : (s.take k).Pairwise P := h.sublist (List.take_sublist _ _)
theorem pw_drop {s : List Nat} {P : Nat → Nat → Prop} (h : s.Pairwise P) (k : Nat) : (s.drop k).Pairwise P := h.sublist (List.drop_sublist _ _)
theorem pw_cut {s : List Nat} {P : Nat → Nat → Prop} (h : s.Pairwise P) (k : Nat) : ∀ x ∈ s.take k, ∀ y ∈ s.drop k, P x y := by
  have : (s.take k ++ s.drop k).Pairwise P := by rw [List.take_append_drop]; exact h
  exact (List.pairwise_append.1 this).2.2
set_option maxRecDepth 100000 in
set_option maxHeartbeats 4000000 in
theorem sym_one (g n c : Nat) (cf : Nat → Nat → Int) (gc : Nat) (lb : Array Value) (hcf : CmpOk cf) (enc : Nat → Value) (rest : List Value) (w0 : World) (hn2 : n ≤ 5864062014805)
    (hcmp : CmpAt cf enc gc lb g w0) (eg : ∀ args w, (callFunc gc args).run Try.prog w = .ok (.enter gc args) w) (hform : ∀ x, ∃ A m k, enc x = .slice A m k)
    (a m b : Nat) (p R q : List Nat) (x : Nat) (W : World) (hx : El enc rest g (p ++ [x] ++ R ++ q) W) (hp : p.length = a) (hm : a + 1 = m) (hR : m + R.length = b) (hq : b + q.length = n)
    (hRs : R.Pairwise (Lt cf)) (hLR : ∀ y ∈ R, x < y) (hk : Seq.Kpt (fun i => i = g) w0 W) :
    Calls Try.prog 80 #[.slice (some ⟨g, 0, none⟩) n c, .int .i64 a, .int .i64 m, .int .i64 b, .func (.func gc) #[] lb] W fun e W' => e = .returned (.tuple #[]) ∧
        ∃ S, S.Perm ([x] ++ R) ∧ S.Pairwise (Lt cf) ∧ Seq.Kpt (fun i => i = g) W W' ∧ El enc rest g (p ++ S ++ q) W' := by
  have mixed : Try.prog.follows .mixedOrders = true := by kernel_rfl
  have e1 : (m : Int) - (a : Int) = 1 := by omega
  have e2 : IntKind.i64.wrap 1 = 1 := by rfl
  have an : a < n := by omega
  have anz : (a : Int) < (n : Int) := by omega
  have hE := hx.cast (ys := p ++ x :: (R ++ q)) (by simp)
  go_enter Try.func80, Try.ntmps80
  go_wp2_with fail
  go_loopw [10, 11] (fun iv jv wr => ∃ (i j : Nat), iv = .int .i64 (i : Int) ∧ jv = .int .i64 (j : Int) ∧ m ≤ i ∧ i ≤ j ∧ j ≤ b ∧ (∀ y ∈ R.take (i - m), Lt cf y x) ∧ (∀ y ∈ R.drop (j - m), Lt cf x y) ∧ El enc rest g (p ++ x :: (R ++ q)) wr ∧ Seq.Kpt (fun i => i = g) W wr) (fun iv jv _ => (intOf jv).toNat - (intOf iv).toNat)
  case atStart => exact ⟨m, b, rfl, rfl, Nat.le_refl _, by omega, Nat.le_refl _, by simp, by rw [List.drop_of_length_le (by omega)]; simp, hE, Seq.Kpt.refl _ _⟩
  case round =>
    obtain ⟨i, j, rfl, rfl, hmi, hij, hjb, hF1, hF2, hEr, hkr⟩ := hrel
    by_cases hlt : i < j
    · have hlz : (i : Int) < (j : Int) := by omega
      obtain ⟨s, hs⟩ : ∃ s : Nat, i + j = s := ⟨_, rfl⟩
      obtain ⟨h, hh⟩ : ∃ h : Nat, s / 2 = h := ⟨_, rfl⟩
      have w1 : (i : Int) + (j : Int) = (s : Int) := by omega
      have w2 : IntKind.i64.wrap (s : Int) = (s : Int) := wrapN (by omega)
      have w3 : (s : Int) / 2 = (h : Int) := by omega
      have w4 : (h : Int) < (n : Int) := by omega
      have w4' : h < n := by omega
      obtain ⟨e, he0, he1, he2⟩ := at_mid (s := R) (k := h - m) (by omega)
      obtain ⟨T, hT⟩ : ∃ T, R.take (h - m) = T := ⟨_, rfl⟩
      obtain ⟨D, hD⟩ : ∃ D, R.drop (h - m + 1) = D := ⟨_, rfl⟩
      rw [hT, hD] at he0
      have hTl : T.length = h - m := by rw [← hT, List.length_take]; omega
      have hEe := hEr.cast (ys := p ++ x :: (T ++ e :: D ++ q)) (by rw [← he0])
      have HE0 := Lib.hid (And.intro he0 (And.intro he1 he2))
      have HTD := Lib.hid (And.intro hT hD)
      clear he0 he1 he2 hT hD
      have c1 : wr.cell? ⟨g, h, none⟩ = some (enc e) := (hEe.cast (ys := (p ++ x :: T) ++ e :: (D ++ q)) (by simp)).at (by first | omega | (simp; omega))
      have c0 : wr.cell? ⟨g, a, none⟩ = some (enc x) := (hEe.cast (ys := p ++ x :: (T ++ e :: (D ++ q))) (by simp)).at (by first | omega | (simp; omega))
      obtain ⟨z, hz⟩ : ∃ z, cf e x = z := ⟨_, rfl⟩
      go_wp2_with fail
      refine (wpIn_wide (n := 0)).1 ?_
      refine wpIn_region_R (l := 0) 11 (S := fun V => V.cell? ⟨g, h, none⟩ = some (enc e) ∧ V.cell? ⟨g, a, none⟩ = some (enc x)) (by kernel_rfl) ⟨c1, c0⟩ (fun hS0 => ?_)
      refine wpAnyR_take (i := 0) (oi := ⟨some 40, _, _, _, _, _⟩) (v := ?_) (by kernel_rfl) (by kernel_rfl) rfl (by kernel_rfl) (by kernel_rfl) (by kernel_rfl) (fun _ _ _ h => h) (Or.inl ⟨by rfl, ?_⟩) (by assumption) ?_
      rotate_left
      · intro w hSw; (try dsimp only at hSw); (try go_split_ands); go_simp; (try (with_reducible rfl))
      (try simp only [Act.put, List.setIfInBounds_toArray, List.set_cons_zero, List.set_cons_succ])
      refine wpAnyR_take (i := 1) (oi := ⟨some 41, _, _, _, _, _⟩) (v := ?_) (by kernel_rfl) (by kernel_rfl) rfl (by kernel_rfl) (by kernel_rfl) (by kernel_rfl) (fun _ _ _ h => h) (Or.inl ⟨by rfl, ?_⟩) (by assumption) ?_
      rotate_left
      · intro w hSw; (try dsimp only at hSw); (try go_split_ands); go_simp; (try (with_reducible rfl))
      (try simp only [Act.put, List.setIfInBounds_toArray, List.set_cons_zero, List.set_cons_succ])
      refine wpAnyR_take (i := 2) (oi := ⟨some 42, _, _, _, _, _⟩) (v := ?_) (by kernel_rfl) (by kernel_rfl) rfl (by kernel_rfl) (by kernel_rfl) (by kernel_rfl) (fun _ _ _ h => h) (Or.inl ⟨by rfl, ?_⟩) (by assumption) ?_
      rotate_left
      · intro w hSw; (try dsimp only at hSw); (try go_split_ands); go_simp; (try (with_reducible rfl))
      (try simp only [Act.put, List.setIfInBounds_toArray, List.set_cons_zero, List.set_cons_succ])
      refine wpAnyR_take (i := 3) (oi := ⟨some 43, _, _, _, _, _⟩) (v := ?_) (by kernel_rfl) (by kernel_rfl) rfl (by kernel_rfl) (by kernel_rfl) (by kernel_rfl) (fun _ _ _ h => h) (Or.inl ⟨by rfl, ?_⟩) (by assumption) ?_
      rotate_left
      · intro w hSw; (try dsimp only at hSw); (try go_split_ands); go_simp; (try (with_reducible rfl))
      (try simp only [Act.put, List.setIfInBounds_toArray, List.set_cons_zero, List.set_cons_succ])
      refine wpAnyR_take (i := 4) (oi := ⟨some 44, _, _, _, _, _⟩) (v := ?_) (by kernel_rfl) (by kernel_rfl) rfl (by kernel_rfl) (by kernel_rfl) (by kernel_rfl) (fun _ _ _ h => h) (Or.inl ⟨by rfl, ?_⟩) (by assumption) ?_
      rotate_left
      · intro w hSw; (try dsimp only at hSw); (try go_split_ands); go_simp; (try (with_reducible rfl))
      (try simp only [Act.put, List.setIfInBounds_toArray, List.set_cons_zero, List.set_cons_succ])
      refine wpAnyR_take (i := 5) (oi := ⟨some 45, _, _, _, _, _⟩) (v := ?_) (by kernel_rfl) (by kernel_rfl) rfl (by kernel_rfl) (by kernel_rfl) (by kernel_rfl) (fun _ _ _ h => h) (Or.inl ⟨by rfl, ?_⟩) (by assumption) ?_
      rotate_left
      · intro w hSw; (try dsimp only at hSw); (try go_split_ands); go_simp; (try (with_reducible rfl))
      (try simp only [Act.put, List.setIfInBounds_toArray, List.set_cons_zero, List.set_cons_succ])
      refine wpAnyR_take (i := 6) (oi := ⟨some 46, _, _, _, _, _⟩) (v := ?_) (by kernel_rfl) (by kernel_rfl) rfl (by kernel_rfl) (by kernel_rfl) (by kernel_rfl) (fun _ _ _ h => h) (Or.inl ⟨by rfl, ?_⟩) (by assumption) ?_
      rotate_left
      · intro w hSw; (try dsimp only at hSw); (try go_split_ands); go_simp; (try (with_reducible rfl))
      (try simp only [Act.put, List.setIfInBounds_toArray, List.set_cons_zero, List.set_cons_succ])
      refine wpAnyR_take (i := 7) (oi := ⟨some 47, _, _, _, _, _⟩) (v := ?_) (by kernel_rfl) (by kernel_rfl) rfl (by kernel_rfl) (by kernel_rfl) (by kernel_rfl) (fun _ _ _ h => h) (Or.inl ⟨by rfl, ?_⟩) (by assumption) ?_
      rotate_left
      · intro w hSw; (try dsimp only at hSw); (try go_split_ands); go_simp; (try (with_reducible rfl))
      (try simp only [Act.put, List.setIfInBounds_toArray, List.set_cons_zero, List.set_cons_succ])
      refine wpAnyR_take (i := 8) (oi := ⟨some 48, _, _, _, _, _⟩) (v := ?_) (by kernel_rfl) (by kernel_rfl) rfl (by kernel_rfl) (by kernel_rfl) (by kernel_rfl) (fun _ _ _ h => h) (Or.inl ⟨by rfl, ?_⟩) (by assumption) ?_
      rotate_left
      · intro w hSw; (try dsimp only at hSw); (try go_split_ands); go_simp; (try (with_reducible rfl))
      (try simp only [Act.put, List.setIfInBounds_toArray, List.set_cons_zero, List.set_cons_succ])
      refine wpAnyR_one (i := 9) (o := ⟨some 49, _, _, _, _, _⟩) (by kernel_rfl) (by kernel_rfl) rfl (fun K hK => ?_)
      go_simp
      refine (hcmp e x wr.drew ((hk.trans hkr (fun _ _ h => h.elim id id)).trans (Seq.Kpt.drew _ _) (fun _ _ h => h.elim id id))).mono ?_
      rintro e w5 ⟨rfl, hb5⟩
      rw [hz]
      have hb5' : Below wr.heap.size wr w5 := (below_drew (Below.refl _ wr)).trans hb5
      have hE5 := El.kept hEe hb5'
      have hk5 := hkr.trans (Seq.Kpt.of_new (fun i => i = g) hb5') (fun _ _ h => h.elim id id)
      have c15 : w5.cell? ⟨g, h, none⟩ = some (enc e) := (hE5.cast (ys := (p ++ x :: T) ++ e :: (D ++ q)) (by simp)).at (by first | omega | (simp; omega))
      have c05 : w5.cell? ⟨g, a, none⟩ = some (enc x) := (hE5.cast (ys := p ++ x :: (T ++ e :: (D ++ q))) (by simp)).at (by first | omega | (simp; omega))
      have c55 := And.intro c15 c05
      (try dsimp only)
      refine hK.out _ _ (.inr c55) ?_
      clear hK K
      (try simp only [Act.put, List.setIfInBounds_toArray, List.set_cons_zero, List.set_cons_succ])
      by_cases hz0 : z < 0
      ·
        refine wpAnyR_take (i := 10) (oi := ⟨some 50, _, _, _, _, _⟩) (v := ?_) (by kernel_rfl) (by kernel_rfl) rfl (by kernel_rfl) (by kernel_rfl) (by kernel_rfl) (fun _ _ _ h => h) (Or.inl ⟨by rfl, ?_⟩) (by assumption) ?_
        rotate_left
        · intro w hSw; (try dsimp only at hSw); (try go_split_ands); go_simp; (try (with_reducible rfl))
        (try simp only [Act.put, List.setIfInBounds_toArray, List.set_cons_zero, List.set_cons_succ])
        refine wpAnyR_done (by kernel_rfl) ?_ _
        go_wp2
        go_roundw
        case rel =>
          refine ⟨h + 1, j, by go_num, rfl, by omega, by omega, hjb, ?_, hF2, El.cast hE5 (by rw [HE0.out.1]), hk5⟩
          rw [show h + 1 - m = h - m + 1 by omega, HE0.out.2.2]
          refine all_ahead hcf ?_ (Lt.of_neg (by rw [hz]; exact hz0))
          rw [← HE0.out.2.2]
          exact pw_take hRs _
        case measure => simp [intOf]; omega
      ·
        refine wpAnyR_take (i := 10) (oi := ⟨some 50, _, _, _, _, _⟩) (v := ?_) (by kernel_rfl) (by kernel_rfl) rfl (by kernel_rfl) (by kernel_rfl) (by kernel_rfl) (fun _ _ _ h => h) (Or.inl ⟨by rfl, ?_⟩) (by assumption) ?_
        rotate_left
        · intro w hSw; (try dsimp only at hSw); (try go_split_ands); go_simp; (try (with_reducible rfl))
        (try simp only [Act.put, List.setIfInBounds_toArray, List.set_cons_zero, List.set_cons_succ])
        refine wpAnyR_done (by kernel_rfl) ?_ _
        go_wp2
        go_roundw
        case rel =>
          refine ⟨i, h, rfl, by go_num, hmi, by omega, by omega, hF1, ?_, El.cast hE5 (by rw [HE0.out.1]), hk5⟩
          rw [HE0.out.2.1]
          refine all_behind hcf ?_ (Lt.of_not hcf (hLR e (by rw [HE0.out.1]; simp)) (by rw [hz]; exact hz0))
          rw [← HE0.out.2.1]
          exact pw_drop hRs _
        case measure => simp [intOf]; omega
    · obtain rfl : i = j := by omega
      have hlz : ¬ (i : Int) < (i : Int) := by omega
      clear hlt
      obtain ⟨i1, hi1⟩ : ∃ i1 : Nat, i - 1 = i1 := ⟨_, rfl⟩
      have w1 : (i : Int) - 1 = (i1 : Int) := by omega
      have w2 : IntKind.i64.wrap (i1 : Int) = (i1 : Int) := wrapN (by omega)
      obtain ⟨R1, hR1⟩ : ∃ R1, R.take (i - m) = R1 := ⟨_, rfl⟩
      obtain ⟨R2, hR2⟩ : ∃ R2, R.drop (i - m) = R2 := ⟨_, rfl⟩
      have hR12 : R1 ++ R2 = R := by rw [← hR1, ← hR2, List.take_append_drop]
      have hR1l : R1.length = i - m := by rw [← hR1, List.length_take]; omega
      rw [hR1] at hF1
      rw [hR2] at hF2
      have hE1 := hEr.cast (ys := p ++ x :: (R1 ++ R2 ++ q)) (by rw [hR12])
      have HR12 := Lib.hid hR12
      clear hR1 hR2 hR12
      go_wp2_with fail
      go_loopw [13] (fun kv wq => ∃ (k : Nat) (A B : List Nat), kv = .int .i64 (k : Int) ∧ R1 = A ++ B ∧ a + A.length = k ∧ El enc rest g (p ++ (A ++ x :: B) ++ (R2 ++ q)) wq ∧ Seq.Kpt (fun i => i = g) W wq) (fun kv _ => i1 - (intOf kv).toNat)
      case atStart => exact ⟨a, [], R1, rfl, rfl, rfl, hE1.cast (by simp), hkr⟩
      case round =>
        obtain ⟨k, A, B, rfl, hAB, hAk, hEk, hkk⟩ := hrel
        have hABl : A.length + B.length = i - m := by rw [← hR1l, hAB]; simp
        by_cases hkl : k < i1
        · have hkz : (k : Int) < (i1 : Int) := by omega
          obtain ⟨y, B', rfl⟩ : ∃ y B', B = y :: B' := by
            cases B with
            | nil => simp at hABl; omega
            | cons y B' => exact ⟨y, B', rfl⟩
          obtain ⟨J, hJ⟩ : ∃ J : Nat, k + 1 = J := ⟨_, rfl⟩
          have w5 : (k : Int) + 1 = (J : Int) := by omega
          have w6 : IntKind.i64.wrap (J : Int) = (J : Int) := wrapN (by omega)
          have hsw := El.swapLo (x := x) (y := y) (A := p ++ A) (B := []) (C := B' ++ R2 ++ q) (I := k) (J := J) (hEk.cast (by simp)) (by simp; omega) (by simp; omega)
          obtain ⟨Ax, nx, cx, hex⟩ := hform x
          obtain ⟨Ay, ny, cy, hey⟩ := hform y
          rw [hex, hey] at hsw
          obtain ⟨d1, d0, d2, q2, hE2⟩ := hsw
          have hk2 : Seq.Kpt (fun i => i = g) W ((wr.setCell ⟨g, k, none⟩ (.slice Ay ny cy)).setCell ⟨g, J, none⟩ (.slice Ax nx cx)) := (hkk.trans (Seq.Kpt.setCell wr ⟨g, k, none⟩ _) (fun _ _ h => h.elim id id)).trans (Seq.Kpt.setCell _ ⟨g, J, none⟩ _) (fun _ _ h => h.elim id id)
          have e1 : wr.drew.cell? ⟨g, k, none⟩ = some (.slice Ax nx cx) := d1
          have e0 : wr.drew.cell? ⟨g, J, none⟩ = some (.slice Ay ny cy) := d0
          have e2 : (wr.setCell ⟨g, k, none⟩ (.slice Ay ny cy)).drew.cell? ⟨g, J, none⟩ = some (.slice Ay ny cy) := d2
          have e3 : (wr.setCell ⟨g, k, none⟩ (.slice Ay ny cy)).drew.frozen? ⟨g, J, none⟩ = false := q2
          have e4 : wr.drew.frozen? ⟨g, k, none⟩ = false := hEk.frozen k
          have e5 : wr.drew.frozen? ⟨g, J, none⟩ = false := hEk.frozen J
          have n1 : (k : Int) < (n : Int) := by omega
          have n2 : (J : Int) < (n : Int) := by omega
          have n3 : k < n := by omega
          have n4 : J < n := by omega
          have n5 : J ≠ k := by omega
          have n6 : k ≠ J := by omega
          have HE2 := Lib.hid (And.intro hE2 hk2)
          clear hE2 hk2 d1 d0 d2 q2 hex hey
          go_wp2_with fail
          go_big_region_o
          go_wp2
          go_roundw
          case rel => exact ⟨J, A ++ [y], B', by go_num, by rw [hAB]; simp, by simp; omega, El.cast HE2.out.1 (by simp), HE2.out.2.trans (Seq.Kpt.drew _ _) (fun _ _ h => h.elim id id)⟩
          case measure => simp [intOf]; omega
        · have hkz : ¬ (k : Int) < (i1 : Int) := by omega
          obtain rfl : B = [] := List.eq_nil_of_length_eq_zero (by omega)
          rw [List.append_nil] at hAB
          subst hAB
          go_wp2
          refine bodyPost_ret (results_none rfl _ _ _) rfl ?_
          refine ⟨rfl, R1 ++ x :: R2, ?_, ?_, hkk, hEk.cast (by simp)⟩
          · rw [← HR12.out]
            exact List.perm_middle
          · have hRs' := hRs
            rw [← HR12.out] at hRs'
            refine pw_append (List.pairwise_append.1 hRs').1 (List.pairwise_cons.2 ⟨hF2, (List.pairwise_append.1 hRs').2.1⟩) ?_
            intro y hy t ht
            rcases List.mem_cons.1 ht with ht | ht
            · rw [ht]; exact hF1 y hy
            · exact (List.pairwise_append.1 hRs').2.2 y hy t ht
end Go.Proofs.Ytghblnldokpceaa.QV
/- slices.SortStableFunc over rows, walked: symMerge. -/
namespace Go.Proofs.Ytghblnldokpceaa.QV
open Go.RowKit Go.Proofs.YtghblnldokpceaaW.PrintWords Go.Proofs.Ytghblnldokpceaa.SeqW Go.Shelf Go.Proofs.Ytghblnldokpceaa.Op Go.Proofs.Ytghblnldokpceaa.Stab
set_option linter.unusedVariables false
set_option linter.unusedSimpArgs false

set_option maxRecDepth 100000 in
set_option maxHeartbeats 4000000 in
theorem sym_last (g n c : Nat) (cf : Nat → Nat → Int) (gc : Nat) (lb : Array Value) (hcf : CmpOk cf) (enc : Nat → Value) (rest : List Value) (w0 : World) (hn2 : n ≤ 5864062014805)
    (hcmp : CmpAt cf enc gc lb g w0) (eg : ∀ args w, (callFunc gc args).run Try.prog w = .ok (.enter gc args) w) (hform : ∀ x, ∃ A m k, enc x = .slice A m k)
    (a m b : Nat) (p L q : List Nat) (x : Nat) (W : World) (hx : El enc rest g (p ++ L ++ [x] ++ q) W) (hp : p.length = a) (hL : a + L.length = m) (hb : m + 1 = b) (hq : b + q.length = n) (hL2 : 2 ≤ L.length)
    (hLs : L.Pairwise (Lt cf)) (hLR : ∀ y ∈ L, y < x) (hk : Seq.Kpt (fun i => i = g) w0 W) :
    Calls Try.prog 80 #[.slice (some ⟨g, 0, none⟩) n c, .int .i64 a, .int .i64 m, .int .i64 b, .func (.func gc) #[] lb] W fun e W' => e = .returned (.tuple #[]) ∧
        ∃ S, S.Perm (L ++ [x]) ∧ S.Pairwise (Lt cf) ∧ Seq.Kpt (fun i => i = g) W W' ∧ El enc rest g (p ++ S ++ q) W' := by
  have mixed : Try.prog.follows .mixedOrders = true := by kernel_rfl
  obtain ⟨ll, hll⟩ : ∃ ll : Nat, L.length = ll := ⟨_, rfl⟩
  have e1 : (m : Int) - (a : Int) = (ll : Int) := by omega
  have e2 : IntKind.i64.wrap (ll : Int) = (ll : Int) := wrapN (by omega)
  have e3 : ((ll : Int) == 1) = false := by simp; omega
  have e3' : ¬ (ll : Int) = 1 := by omega
  have e3n : ¬ ll = 1 := by omega
  have e4 : (b : Int) - (m : Int) = 1 := by omega
  have e5 : IntKind.i64.wrap 1 = 1 := by rfl
  have an : m < n := by omega
  have anz : (m : Int) < (n : Int) := by omega
  have hE := hx.cast (ys := p ++ L ++ x :: q) (by simp)
  go_enter Try.func80, Try.ntmps80
  go_wp2_with fail
  go_loopw [14, 15] (fun iv jv wr => ∃ (i j : Nat), iv = .int .i64 (i : Int) ∧ jv = .int .i64 (j : Int) ∧ a ≤ i ∧ i ≤ j ∧ j ≤ m ∧ (∀ y ∈ L.take (i - a), Lt cf y x) ∧ (∀ y ∈ L.drop (j - a), Lt cf x y) ∧ El enc rest g (p ++ L ++ x :: q) wr ∧ Seq.Kpt (fun i => i = g) W wr) (fun iv jv _ => (intOf jv).toNat - (intOf iv).toNat)
  case atStart => exact ⟨a, m, rfl, rfl, Nat.le_refl _, by omega, Nat.le_refl _, by simp, by rw [List.drop_of_length_le (by omega)]; simp, hE, Seq.Kpt.refl _ _⟩
  case round =>
    obtain ⟨i, j, rfl, rfl, hmi, hij, hjb, hF1, hF2, hEr, hkr⟩ := hrel
    clear e1 e2 e3 e3' e3n e4 e5
    by_cases hlt : i < j
    · have hlz : (i : Int) < (j : Int) := by omega
      obtain ⟨s, hs⟩ : ∃ s : Nat, i + j = s := ⟨_, rfl⟩
      obtain ⟨h, hh⟩ : ∃ h : Nat, s / 2 = h := ⟨_, rfl⟩
      have w1 : (i : Int) + (j : Int) = (s : Int) := by omega
      have w2 : IntKind.i64.wrap (s : Int) = (s : Int) := wrapN (by omega)
      have w3 : (s : Int) / 2 = (h : Int) := by omega
      have w4 : (h : Int) < (n : Int) := by omega
      have w4' : h < n := by omega
      obtain ⟨e, he0, he1, he2⟩ := at_mid (s := L) (k := h - a) (by omega)
      obtain ⟨T, hT⟩ : ∃ T, L.take (h - a) = T := ⟨_, rfl⟩
      obtain ⟨D, hD⟩ : ∃ D, L.drop (h - a + 1) = D := ⟨_, rfl⟩
      rw [hT, hD] at he0
      have hTl : T.length = h - a := by rw [← hT, List.length_take]; omega
      have hDl : T.length + 1 + D.length = ll := by rw [← hll, he0]; simp; omega
      have hEe := hEr.cast (ys := p ++ (T ++ e :: D) ++ x :: q) (by rw [← he0])
      have HE0 := Lib.hid (And.intro he0 (And.intro he1 he2))
      have HTD := Lib.hid (And.intro hT hD)
      clear he0 he1 he2 hT hD
      have c1 : wr.cell? ⟨g, m, none⟩ = some (enc x) := (hEe.cast (ys := (p ++ T ++ e :: D) ++ x :: q) (by simp)).at (by first | omega | (simp; omega))
      have c0 : wr.cell? ⟨g, h, none⟩ = some (enc e) := (hEe.cast (ys := (p ++ T) ++ e :: (D ++ x :: q)) (by simp)).at (by first | omega | (simp; omega))
      obtain ⟨z, hz⟩ : ∃ z, cf x e = z := ⟨_, rfl⟩
      go_wp2_with fail
      refine (wpIn_wide (n := 0)).1 ?_
      refine wpIn_region_R (l := 0) 12 (S := fun V => V.cell? ⟨g, m, none⟩ = some (enc x) ∧ V.cell? ⟨g, h, none⟩ = some (enc e)) (by kernel_rfl) ⟨c1, c0⟩ (fun hS0 => ?_)
      refine wpAnyR_take (i := 0) (oi := ⟨some 92, _, _, _, _, _⟩) (v := ?_) (by kernel_rfl) (by kernel_rfl) rfl (by kernel_rfl) (by kernel_rfl) (by kernel_rfl) (fun _ _ _ h => h) (Or.inl ⟨by rfl, ?_⟩) (by assumption) ?_
      rotate_left
      · intro w hSw; (try dsimp only at hSw); (try go_split_ands); go_simp; (try (with_reducible rfl))
      (try simp only [Act.put, List.setIfInBounds_toArray, List.set_cons_zero, List.set_cons_succ])
      refine wpAnyR_take (i := 1) (oi := ⟨some 93, _, _, _, _, _⟩) (v := ?_) (by kernel_rfl) (by kernel_rfl) rfl (by kernel_rfl) (by kernel_rfl) (by kernel_rfl) (fun _ _ _ h => h) (Or.inl ⟨by rfl, ?_⟩) (by assumption) ?_
      rotate_left
      · intro w hSw; (try dsimp only at hSw); (try go_split_ands); go_simp; (try (with_reducible rfl))
      (try simp only [Act.put, List.setIfInBounds_toArray, List.set_cons_zero, List.set_cons_succ])
      refine wpAnyR_take (i := 2) (oi := ⟨some 94, _, _, _, _, _⟩) (v := ?_) (by kernel_rfl) (by kernel_rfl) rfl (by kernel_rfl) (by kernel_rfl) (by kernel_rfl) (fun _ _ _ h => h) (Or.inl ⟨by rfl, ?_⟩) (by assumption) ?_
      rotate_left
      · intro w hSw; (try dsimp only at hSw); (try go_split_ands); go_simp; (try (with_reducible rfl))
      (try simp only [Act.put, List.setIfInBounds_toArray, List.set_cons_zero, List.set_cons_succ])
      refine wpAnyR_take (i := 3) (oi := ⟨some 95, _, _, _, _, _⟩) (v := ?_) (by kernel_rfl) (by kernel_rfl) rfl (by kernel_rfl) (by kernel_rfl) (by kernel_rfl) (fun _ _ _ h => h) (Or.inl ⟨by rfl, ?_⟩) (by assumption) ?_
      rotate_left
      · intro w hSw; (try dsimp only at hSw); (try go_split_ands); go_simp; (try (with_reducible rfl))
      (try simp only [Act.put, List.setIfInBounds_toArray, List.set_cons_zero, List.set_cons_succ])
      refine wpAnyR_take (i := 4) (oi := ⟨some 96, _, _, _, _, _⟩) (v := ?_) (by kernel_rfl) (by kernel_rfl) rfl (by kernel_rfl) (by kernel_rfl) (by kernel_rfl) (fun _ _ _ h => h) (Or.inl ⟨by rfl, ?_⟩) (by assumption) ?_
      rotate_left
      · intro w hSw; (try dsimp only at hSw); (try go_split_ands); go_simp; (try (with_reducible rfl))
      (try simp only [Act.put, List.setIfInBounds_toArray, List.set_cons_zero, List.set_cons_succ])
      refine wpAnyR_take (i := 5) (oi := ⟨some 97, _, _, _, _, _⟩) (v := ?_) (by kernel_rfl) (by kernel_rfl) rfl (by kernel_rfl) (by kernel_rfl) (by kernel_rfl) (fun _ _ _ h => h) (Or.inl ⟨by rfl, ?_⟩) (by assumption) ?_
      rotate_left
      · intro w hSw; (try dsimp only at hSw); (try go_split_ands); go_simp; (try (with_reducible rfl))
      (try simp only [Act.put, List.setIfInBounds_toArray, List.set_cons_zero, List.set_cons_succ])
      refine wpAnyR_take (i := 6) (oi := ⟨some 98, _, _, _, _, _⟩) (v := ?_) (by kernel_rfl) (by kernel_rfl) rfl (by kernel_rfl) (by kernel_rfl) (by kernel_rfl) (fun _ _ _ h => h) (Or.inl ⟨by rfl, ?_⟩) (by assumption) ?_
      rotate_left
      · intro w hSw; (try dsimp only at hSw); (try go_split_ands); go_simp; (try (with_reducible rfl))
      (try simp only [Act.put, List.setIfInBounds_toArray, List.set_cons_zero, List.set_cons_succ])
      refine wpAnyR_take (i := 7) (oi := ⟨some 99, _, _, _, _, _⟩) (v := ?_) (by kernel_rfl) (by kernel_rfl) rfl (by kernel_rfl) (by kernel_rfl) (by kernel_rfl) (fun _ _ _ h => h) (Or.inl ⟨by rfl, ?_⟩) (by assumption) ?_
      rotate_left
      · intro w hSw; (try dsimp only at hSw); (try go_split_ands); go_simp; (try (with_reducible rfl))
      (try simp only [Act.put, List.setIfInBounds_toArray, List.set_cons_zero, List.set_cons_succ])
      refine wpAnyR_take (i := 8) (oi := ⟨some 100, _, _, _, _, _⟩) (v := ?_) (by kernel_rfl) (by kernel_rfl) rfl (by kernel_rfl) (by kernel_rfl) (by kernel_rfl) (fun _ _ _ h => h) (Or.inl ⟨by rfl, ?_⟩) (by assumption) ?_
      rotate_left
      · intro w hSw; (try dsimp only at hSw); (try go_split_ands); go_simp; (try (with_reducible rfl))
      (try simp only [Act.put, List.setIfInBounds_toArray, List.set_cons_zero, List.set_cons_succ])
      refine wpAnyR_one (i := 9) (o := ⟨some 101, _, _, _, _, _⟩) (by kernel_rfl) (by kernel_rfl) rfl (fun K hK => ?_)
      go_simp
      refine (hcmp x e wr.drew ((hk.trans hkr (fun _ _ h => h.elim id id)).trans (Seq.Kpt.drew _ _) (fun _ _ h => h.elim id id))).mono ?_
      rintro e w5 ⟨rfl, hb5⟩
      rw [hz]
      have hb5' : Below wr.heap.size wr w5 := (below_drew (Below.refl _ wr)).trans hb5
      have hE5 := El.kept hEe hb5'
      have hk5 := hkr.trans (Seq.Kpt.of_new (fun i => i = g) hb5') (fun _ _ h => h.elim id id)
      have c15 : w5.cell? ⟨g, m, none⟩ = some (enc x) := (hE5.cast (ys := (p ++ T ++ e :: D) ++ x :: q) (by simp)).at (by first | omega | (simp; omega))
      have c05 : w5.cell? ⟨g, h, none⟩ = some (enc e) := (hE5.cast (ys := (p ++ T) ++ e :: (D ++ x :: q)) (by simp)).at (by first | omega | (simp; omega))
      have c55 := And.intro c15 c05
      (try dsimp only)
      refine hK.out _ _ (.inr c55) ?_
      clear hK K
      (try simp only [Act.put, List.setIfInBounds_toArray, List.set_cons_zero, List.set_cons_succ])
      by_cases hz0 : z < 0
      ·
        refine wpAnyR_take (i := 10) (oi := ⟨some 102, _, _, _, _, _⟩) (v := ?_) (by kernel_rfl) (by kernel_rfl) rfl (by kernel_rfl) (by kernel_rfl) (by kernel_rfl) (fun _ _ _ h => h) (Or.inl ⟨by rfl, ?_⟩) (by assumption) ?_
        rotate_left
        · intro w hSw; (try dsimp only at hSw); (try go_split_ands); go_simp; (try (with_reducible rfl))
        (try simp only [Act.put, List.setIfInBounds_toArray, List.set_cons_zero, List.set_cons_succ])
        refine wpAnyR_take (i := 11) (oi := ⟨some 103, _, _, _, _, _⟩) (v := ?_) (by kernel_rfl) (by kernel_rfl) rfl (by kernel_rfl) (by kernel_rfl) (by kernel_rfl) (fun _ _ _ h => h) (Or.inl ⟨by rfl, ?_⟩) (by assumption) ?_
        rotate_left
        · intro w hSw; (try dsimp only at hSw); (try go_split_ands); go_simp; (try (with_reducible rfl))
        (try simp only [Act.put, List.setIfInBounds_toArray, List.set_cons_zero, List.set_cons_succ])
        refine wpAnyR_done (by kernel_rfl) ?_ _
        go_wp2
        go_roundw
        case rel =>
          refine ⟨i, h, rfl, by go_num, hmi, by omega, by omega, hF1, ?_, El.cast hE5 (by rw [HE0.out.1]), hk5⟩
          rw [HE0.out.2.1]
          refine all_behind hcf ?_ (Lt.of_neg (by rw [hz]; exact hz0))
          rw [← HE0.out.2.1]
          exact pw_drop hLs _
        case measure => simp [intOf]; omega
      ·
        refine wpAnyR_take (i := 10) (oi := ⟨some 102, _, _, _, _, _⟩) (v := ?_) (by kernel_rfl) (by kernel_rfl) rfl (by kernel_rfl) (by kernel_rfl) (by kernel_rfl) (fun _ _ _ h => h) (Or.inl ⟨by rfl, ?_⟩) (by assumption) ?_
        rotate_left
        · intro w hSw; (try dsimp only at hSw); (try go_split_ands); go_simp; (try (with_reducible rfl))
        (try simp only [Act.put, List.setIfInBounds_toArray, List.set_cons_zero, List.set_cons_succ])
        refine wpAnyR_take (i := 11) (oi := ⟨some 103, _, _, _, _, _⟩) (v := ?_) (by kernel_rfl) (by kernel_rfl) rfl (by kernel_rfl) (by kernel_rfl) (by kernel_rfl) (fun _ _ _ h => h) (Or.inl ⟨by rfl, ?_⟩) (by assumption) ?_
        rotate_left
        · intro w hSw; (try dsimp only at hSw); (try go_split_ands); go_simp; (try (with_reducible rfl))
        (try simp only [Act.put, List.setIfInBounds_toArray, List.set_cons_zero, List.set_cons_succ])
        refine wpAnyR_done (by kernel_rfl) ?_ _
        go_wp2
        go_roundw
        case rel =>
          refine ⟨h + 1, j, by go_num, rfl, by omega, by omega, hjb, ?_, hF2, El.cast hE5 (by rw [HE0.out.1]), hk5⟩
          rw [show h + 1 - a = h - a + 1 by omega, HE0.out.2.2]
          refine all_ahead hcf ?_ (Lt.of_not hcf (hLR e (by rw [HE0.out.1]; simp)) (by rw [hz]; exact hz0))
          rw [← HE0.out.2.2]
          exact pw_take hLs _
        case measure => simp [intOf]; omega
    · obtain rfl : i = j := by omega
      have hlz : ¬ (i : Int) < (i : Int) := by omega
      clear hlt
      obtain ⟨L1, hL1⟩ : ∃ L1, L.take (i - a) = L1 := ⟨_, rfl⟩
      obtain ⟨L2, hL2'⟩ : ∃ L2, L.drop (i - a) = L2 := ⟨_, rfl⟩
      have hL12 : L1 ++ L2 = L := by rw [← hL1, ← hL2', List.take_append_drop]
      have hL1l : L1.length = i - a := by rw [← hL1, List.length_take]; omega
      have hL2l : L1.length + L2.length = ll := by rw [← hll, ← hL12]; simp
      rw [hL1] at hF1
      rw [hL2'] at hF2
      have hE1 := hEr.cast (ys := p ++ (L1 ++ L2) ++ x :: q) (by rw [hL12])
      have HL12 := Lib.hid hL12
      clear hL1 hL2' hL12
      go_wp2_with fail
      go_loopw [17] (fun kv wq => ∃ (k : Nat) (A B : List Nat), kv = .int .i64 (k : Int) ∧ L2 = A ++ B ∧ i + A.length = k ∧ El enc rest g (p ++ L1 ++ (A ++ x :: B) ++ q) wq ∧ Seq.Kpt (fun i => i = g) W wq) (fun kv _ => (intOf kv).toNat)
      case atStart => exact ⟨m, L2, [], rfl, by simp, by omega, hE1.cast (by simp), hkr⟩
      case round =>
        obtain ⟨k, A, B, rfl, hAB, hAk, hEk, hkk⟩ := hrel
        have hABl : A.length + B.length + L1.length = ll := by rw [← hL2l, hAB]; simp; omega
        by_cases hkl : i < k
        · have hkz : (i : Int) < (k : Int) := by omega
          rcases snoc_cases A with rfl | ⟨A', y, rfl⟩
          · simp at hAk; omega
          obtain ⟨K, hK⟩ : ∃ K : Nat, k - 1 = K := ⟨_, rfl⟩
          have hA'l : i + A'.length = K := by simp at hAk; omega
          have hABl' : A'.length + 1 + B.length + L1.length = ll := by simp at hABl; omega
          clear hABl
          have w5 : (k : Int) - 1 = (K : Int) := by omega
          have w6 : IntKind.i64.wrap (K : Int) = (K : Int) := wrapN (by omega)
          have hsw := El.swapHi (x := y) (y := x) (A := p ++ L1 ++ A') (B := []) (C := B ++ q) (I := K) (J := k) (hEk.cast (by simp)) (by simp; omega) (by simp; omega)
          obtain ⟨Ax, nx, cx, hex⟩ := hform y
          obtain ⟨Ay, ny, cy, hey⟩ := hform x
          rw [hex, hey] at hsw
          obtain ⟨d1, d0, d2, q2, hE2⟩ := hsw
          have hk2 : Seq.Kpt (fun i => i = g) W ((wr.setCell ⟨g, k, none⟩ (.slice Ax nx cx)).setCell ⟨g, K, none⟩ (.slice Ay ny cy)) := (hkk.trans (Seq.Kpt.setCell wr ⟨g, k, none⟩ _) (fun _ _ h => h.elim id id)).trans (Seq.Kpt.setCell _ ⟨g, K, none⟩ _) (fun _ _ h => h.elim id id)
          have e1 : wr.drew.cell? ⟨g, K, none⟩ = some (.slice Ax nx cx) := d1
          have e0 : wr.drew.cell? ⟨g, k, none⟩ = some (.slice Ay ny cy) := d0
          have e2 : (wr.setCell ⟨g, k, none⟩ (.slice Ax nx cx)).drew.cell? ⟨g, K, none⟩ = some (.slice Ax nx cx) := d2
          have e3 : (wr.setCell ⟨g, k, none⟩ (.slice Ax nx cx)).drew.frozen? ⟨g, K, none⟩ = false := q2
          have e4 : wr.drew.frozen? ⟨g, K, none⟩ = false := hEk.frozen K
          have e5 : wr.drew.frozen? ⟨g, k, none⟩ = false := hEk.frozen k
          have n1 : (K : Int) < (n : Int) := by omega
          have n2 : (k : Int) < (n : Int) := by omega
          have n3 : K < n := by omega
          have n4 : k < n := by omega
          have n5 : k ≠ K := by omega
          have n6 : K ≠ k := by omega
          have HE2 := Lib.hid (And.intro hE2 hk2)
          clear hE2 hk2 d1 d0 d2 q2 hex hey
          go_wp2_with fail
          go_big_region_o
          go_wp2
          go_roundw
          case rel => exact ⟨K, A', y :: B, by go_num, by rw [hAB]; simp, hA'l, El.cast HE2.out.1 (by simp), HE2.out.2.trans (Seq.Kpt.drew _ _) (fun _ _ h => h.elim id id)⟩
          case measure => simp [intOf]; omega
        · have hkz : ¬ (i : Int) < (k : Int) := by omega
          obtain rfl : A = [] := List.eq_nil_of_length_eq_zero (by omega)
          rw [List.nil_append] at hAB
          subst hAB
          go_wp2
          refine bodyPost_ret (results_none rfl _ _ _) rfl ?_
          refine ⟨rfl, L1 ++ x :: L2, ?_, ?_, hkk, hEk.cast (by simp)⟩
          · rw [← HL12.out]
            exact List.perm_middle.trans (List.perm_append_singleton x _).symm
          · have hLs' := hLs
            rw [← HL12.out] at hLs'
            refine pw_append (List.pairwise_append.1 hLs').1 (List.pairwise_cons.2 ⟨hF2, (List.pairwise_append.1 hLs').2.1⟩) ?_
            intro y hy t ht
            rcases List.mem_cons.1 ht with ht | ht
            · rw [ht]; exact hF1 y hy
            · exact (List.pairwise_append.1 hLs').2.2 y hy t ht
end Go.Proofs.Ytghblnldokpceaa.QV
/- slices.SortStableFunc over rows, walked: symMerge. -/
namespace Go.Proofs.Ytghblnldokpceaa.QV
open Go.RowKit Go.Proofs.YtghblnldokpceaaW.PrintWords Go.Proofs.Ytghblnldokpceaa.SeqW Go.Shelf Go.Proofs.Ytghblnldokpceaa.Op Go.Proofs.Ytghblnldokpceaa.Stab
set_option linter.unusedVariables false
set_option linter.unusedSimpArgs false

/-- What symMerge does, for parts of so many elements. -/
def SymAt (g n c : Nat) (cf : Nat → Nat → Int) (gc : Nat) (lb : Array Value) (enc : Nat → Value) (rest : List Value) (w0 : World) (N : Nat) : Prop :=
  ∀ (a m b : Nat) (p L R q : List Nat) (W : World), b - a ≤ N → El enc rest g (p ++ L ++ R ++ q) W → p.length = a → a + L.length = m → m + R.length = b → b + q.length = n → 0 < L.length → 0 < R.length →
      L.Pairwise (Lt cf) → R.Pairwise (Lt cf) → (∀ x ∈ L, ∀ y ∈ R, x < y) → Seq.Kpt (fun i => i = g) w0 W →
      Calls Try.prog 80 #[.slice (some ⟨g, 0, none⟩) n c, .int .i64 a, .int .i64 m, .int .i64 b, .func (.func gc) #[] lb] W fun e W' => e = .returned (.tuple #[]) ∧
        ∃ S, S.Perm (L ++ R) ∧ S.Pairwise (Lt cf) ∧ Seq.Kpt (fun i => i = g) W W' ∧ El enc rest g (p ++ S ++ q) W' 
set_option maxRecDepth 100000 in
set_option maxHeartbeats 16000000 in
theorem sym_gt (g n c : Nat) (cf : Nat → Nat → Int) (gc : Nat) (lb : Array Value) (hcf : CmpOk cf) (enc : Nat → Value) (rest : List Value) (w0 : World) (hn2 : n ≤ 5864062014805)
    (hcmp : CmpAt cf enc gc lb g w0) (eg : ∀ args w, (callFunc gc args).run Try.prog w = .ok (.enter gc args) w) (hform : ∀ x, ∃ A m k, enc x = .slice A m k)
    (N : Nat) (IH : SymAt g n c cf gc lb enc rest w0 N) (a m b : Nat) (p L R q : List Nat) (W : World) (hN : b - a ≤ N + 1) (hx : El enc rest g (p ++ L ++ R ++ q) W) (hp : p.length = a) (hL : a + L.length = m) (hR : m + R.length = b) (hq : b + q.length = n) (hL2 : 2 ≤ L.length) (hR2 : 2 ≤ R.length)
    (hLs : L.Pairwise (Lt cf)) (hRs : R.Pairwise (Lt cf)) (hLR : ∀ x ∈ L, ∀ y ∈ R, x < y) (hk : Seq.Kpt (fun i => i = g) w0 W) (hside : (a + b) / 2 < m) :
    Calls Try.prog 80 #[.slice (some ⟨g, 0, none⟩) n c, .int .i64 a, .int .i64 m, .int .i64 b, .func (.func gc) #[] lb] W fun e W' => e = .returned (.tuple #[]) ∧
        ∃ S, S.Perm (L ++ R) ∧ S.Pairwise (Lt cf) ∧ Seq.Kpt (fun i => i = g) W W' ∧ El enc rest g (p ++ S ++ q) W' := by
  have mixed : Try.prog.follows .mixedOrders = true := by kernel_rfl
  obtain ⟨ll, hll⟩ : ∃ ll : Nat, L.length = ll := ⟨_, rfl⟩
  obtain ⟨lr, hlr⟩ : ∃ lr : Nat, R.length = lr := ⟨_, rfl⟩
  have e1 : (m : Int) - (a : Int) = (ll : Int) := by omega
  have e2 : IntKind.i64.wrap (ll : Int) = (ll : Int) := wrapN (by omega)
  have e3' : ¬ (ll : Int) = 1 := by omega
  have e3n : ¬ ll = 1 := by omega
  have e4 : (b : Int) - (m : Int) = (lr : Int) := by omega
  have e5 : IntKind.i64.wrap (lr : Int) = (lr : Int) := wrapN (by omega)
  have e6' : ¬ (lr : Int) = 1 := by omega
  have e3 : ((ll : Int) == 1) = false := by simp; omega
  have e6 : ((lr : Int) == 1) = false := by simp; omega
  have e6n : ¬ lr = 1 := by omega
  obtain ⟨s0, hs0⟩ : ∃ s0 : Nat, a + b = s0 := ⟨_, rfl⟩
  obtain ⟨M, hM⟩ : ∃ M : Nat, s0 / 2 = M := ⟨_, rfl⟩
  obtain ⟨nn, hnn⟩ : ∃ nn : Nat, M + m = nn := ⟨_, rfl⟩
  obtain ⟨pp, hpp⟩ : ∃ pp : Nat, nn - 1 = pp := ⟨_, rfl⟩
  have f1 : (a : Int) + (b : Int) = (s0 : Int) := by omega
  have f2 : IntKind.i64.wrap (s0 : Int) = (s0 : Int) := wrapN (by omega)
  have f3 : (s0 : Int) / 2 = (M : Int) := by omega
  have f4 : (M : Int) + (m : Int) = (nn : Int) := by omega
  have f5 : IntKind.i64.wrap (nn : Int) = (nn : Int) := wrapN (by omega)
  have f6 : (nn : Int) - 1 = (pp : Int) := by omega
  have f7 : IntKind.i64.wrap (pp : Int) = (pp : Int) := wrapN (by omega)
  obtain ⟨lo, hlo⟩ : ∃ lo : Nat, nn - b = lo := ⟨_, rfl⟩
  have f8 : (nn : Int) - (b : Int) = (lo : Int) := by omega
  have f9 : IntKind.i64.wrap (lo : Int) = (lo : Int) := wrapN (by omega)
  have hgz : (M : Int) < (m : Int) := by omega
  go_enter Try.func80, Try.ntmps80
  go_wp2_with fail
  clear e1 e2 e3 e3' e3n e4 e5 e6 e6' e6n f1 f2 f3 f4 f5 f6 f7 hgz f8 f9
  go_loopw [20, 21] (fun iv jv wr => ∃ (st r : Nat), iv = .int .i64 (st : Int) ∧ jv = .int .i64 (r : Int) ∧ lo ≤ st ∧ st ≤ r ∧ r ≤ M ∧ (∀ u ∈ L.take (st - a), ∀ v ∈ R.drop (nn - st - m), Lt cf u v) ∧ (∀ v ∈ R.take (nn - r - m), ∀ u ∈ L.drop (r - a), Lt cf v u) ∧ El enc rest g (p ++ L ++ R ++ q) wr ∧ Seq.Kpt (fun i => i = g) W wr) (fun iv jv _ => (intOf jv).toNat - (intOf iv).toNat)
  case atStart => exact ⟨lo, M, rfl, rfl, Nat.le_refl _, by omega, Nat.le_refl _, by rw [List.drop_of_length_le (by omega)]; simp, by rw [show nn - M - m = 0 by omega]; simp, hx, Seq.Kpt.refl _ _⟩
  case round =>
    obtain ⟨st, r, rfl, rfl, hst, hsr, hrh, hF1, hF2, hEr, hkr⟩ := hrel
    by_cases hlt : st < r
    · have hlz : (st : Int) < (r : Int) := by omega
      obtain ⟨s, hs⟩ : ∃ s : Nat, st + r = s := ⟨_, rfl⟩
      obtain ⟨h, hh⟩ : ∃ h : Nat, s / 2 = h := ⟨_, rfl⟩
      obtain ⟨d, hd⟩ : ∃ d : Nat, pp - h = d := ⟨_, rfl⟩
      have w1 : (st : Int) + (r : Int) = (s : Int) := by omega
      have w2 : IntKind.i64.wrap (s : Int) = (s : Int) := wrapN (by omega)
      have w3 : (s : Int) / 2 = (h : Int) := by omega
      have w4 : (h : Int) < (n : Int) := by omega
      have w4' : h < n := by omega
      have w5 : (pp : Int) - (h : Int) = (d : Int) := by omega
      have w6 : IntKind.i64.wrap (d : Int) = (d : Int) := wrapN (by omega)
      have w7 : (d : Int) < (n : Int) := by omega
      have w7' : d < n := by omega
      obtain ⟨u0, hu0, hu1, hu2⟩ := at_mid (s := L) (k := h - a) (by omega)
      obtain ⟨v0, hv0, hv1, hv2⟩ := at_mid (s := R) (k := d - m) (by omega)
      obtain ⟨TL, hTL⟩ : ∃ T, L.take (h - a) = T := ⟨_, rfl⟩
      obtain ⟨DL, hDL⟩ : ∃ D, L.drop (h - a + 1) = D := ⟨_, rfl⟩
      obtain ⟨TR, hTR⟩ : ∃ T, R.take (d - m) = T := ⟨_, rfl⟩
      obtain ⟨DR, hDR⟩ : ∃ D, R.drop (d - m + 1) = D := ⟨_, rfl⟩
      have lTL : TL.length = h - a := by rw [← hTL, List.length_take]; omega
      have lTR : TR.length = d - m := by rw [← hTR, List.length_take]; omega
      have lDL : DL.length = ll - (h - a + 1) := by rw [← hDL, List.length_drop, hll]
      rw [hTL, hDL] at hu0
      rw [hTR, hDR] at hv0
      have hEe := hEr.cast (ys := p ++ (TL ++ u0 :: DL) ++ (TR ++ v0 :: DR) ++ q) (by rw [← hu0, ← hv0])
      have HU := Lib.hid (And.intro hu0 (And.intro hu1 hu2))
      have HV := Lib.hid (And.intro hv0 (And.intro hv1 hv2))
      clear hu0 hu1 hu2 hv0 hv1 hv2 hTL hDL hTR hDR
      have c1 : wr.cell? ⟨g, d, none⟩ = some (enc v0) := (hEe.cast (ys := (p ++ (TL ++ u0 :: DL) ++ TR) ++ v0 :: (DR ++ q)) (by simp)).at (by first | omega | (simp; omega))
      have c0 : wr.cell? ⟨g, h, none⟩ = some (enc u0) := (hEe.cast (ys := (p ++ TL) ++ u0 :: (DL ++ (TR ++ v0 :: DR) ++ q)) (by simp)).at (by first | omega | (simp; omega))
      obtain ⟨z, hz⟩ : ∃ z, cf v0 u0 = z := ⟨_, rfl⟩
      go_wp2_with fail
      refine (wpIn_wide (n := 0)).1 ?_
      refine wpIn_region_R (l := 0) 14 (S := fun V => V.cell? ⟨g, d, none⟩ = some (enc v0) ∧ V.cell? ⟨g, h, none⟩ = some (enc u0)) (by kernel_rfl) ⟨c1, c0⟩ (fun hS0 => ?_)
      refine wpAnyR_take (i := 0) (oi := ⟨some 158, _, _, _, _, _⟩) (v := ?_) (by kernel_rfl) (by kernel_rfl) rfl (by kernel_rfl) (by kernel_rfl) (by kernel_rfl) (fun _ _ _ h => h) (Or.inl ⟨by rfl, ?_⟩) (by assumption) ?_
      rotate_left
      · intro w hSw; (try dsimp only at hSw); (try go_split_ands); go_simp; (try (with_reducible rfl))
      (try simp only [Act.put, List.setIfInBounds_toArray, List.set_cons_zero, List.set_cons_succ])
      refine wpAnyR_take (i := 1) (oi := ⟨some 159, _, _, _, _, _⟩) (v := ?_) (by kernel_rfl) (by kernel_rfl) rfl (by kernel_rfl) (by kernel_rfl) (by kernel_rfl) (fun _ _ _ h => h) (Or.inl ⟨by rfl, ?_⟩) (by assumption) ?_
      rotate_left
      · intro w hSw; (try dsimp only at hSw); (try go_split_ands); go_simp; (try (with_reducible rfl))
      (try simp only [Act.put, List.setIfInBounds_toArray, List.set_cons_zero, List.set_cons_succ])
      refine wpAnyR_take (i := 2) (oi := ⟨some 160, _, _, _, _, _⟩) (v := ?_) (by kernel_rfl) (by kernel_rfl) rfl (by kernel_rfl) (by kernel_rfl) (by kernel_rfl) (fun _ _ _ h => h) (Or.inl ⟨by rfl, ?_⟩) (by assumption) ?_
      rotate_left
      · intro w hSw; (try dsimp only at hSw); (try go_split_ands); go_simp; (try (with_reducible rfl))
      (try simp only [Act.put, List.setIfInBounds_toArray, List.set_cons_zero, List.set_cons_succ])
      refine wpAnyR_take (i := 3) (oi := ⟨some 161, _, _, _, _, _⟩) (v := ?_) (by kernel_rfl) (by kernel_rfl) rfl (by kernel_rfl) (by kernel_rfl) (by kernel_rfl) (fun _ _ _ h => h) (Or.inl ⟨by rfl, ?_⟩) (by assumption) ?_
      rotate_left
      · intro w hSw; (try dsimp only at hSw); (try go_split_ands); go_simp; (try (with_reducible rfl))
      (try simp only [Act.put, List.setIfInBounds_toArray, List.set_cons_zero, List.set_cons_succ])
      refine wpAnyR_take (i := 4) (oi := ⟨some 162, _, _, _, _, _⟩) (v := ?_) (by kernel_rfl) (by kernel_rfl) rfl (by kernel_rfl) (by kernel_rfl) (by kernel_rfl) (fun _ _ _ h => h) (Or.inl ⟨by rfl, ?_⟩) (by assumption) ?_
      rotate_left
      · intro w hSw; (try dsimp only at hSw); (try go_split_ands); go_simp; (try (with_reducible rfl))
      (try simp only [Act.put, List.setIfInBounds_toArray, List.set_cons_zero, List.set_cons_succ])
      refine wpAnyR_take (i := 5) (oi := ⟨some 163, _, _, _, _, _⟩) (v := ?_) (by kernel_rfl) (by kernel_rfl) rfl (by kernel_rfl) (by kernel_rfl) (by kernel_rfl) (fun _ _ _ h => h) (Or.inl ⟨by rfl, ?_⟩) (by assumption) ?_
      rotate_left
      · intro w hSw; (try dsimp only at hSw); (try go_split_ands); go_simp; (try (with_reducible rfl))
      (try simp only [Act.put, List.setIfInBounds_toArray, List.set_cons_zero, List.set_cons_succ])
      refine wpAnyR_take (i := 6) (oi := ⟨some 164, _, _, _, _, _⟩) (v := ?_) (by kernel_rfl) (by kernel_rfl) rfl (by kernel_rfl) (by kernel_rfl) (by kernel_rfl) (fun _ _ _ h => h) (Or.inl ⟨by rfl, ?_⟩) (by assumption) ?_
      rotate_left
      · intro w hSw; (try dsimp only at hSw); (try go_split_ands); go_simp; (try (with_reducible rfl))
      (try simp only [Act.put, List.setIfInBounds_toArray, List.set_cons_zero, List.set_cons_succ])
      refine wpAnyR_take (i := 7) (oi := ⟨some 165, _, _, _, _, _⟩) (v := ?_) (by kernel_rfl) (by kernel_rfl) rfl (by kernel_rfl) (by kernel_rfl) (by kernel_rfl) (fun _ _ _ h => h) (Or.inl ⟨by rfl, ?_⟩) (by assumption) ?_
      rotate_left
      · intro w hSw; (try dsimp only at hSw); (try go_split_ands); go_simp; (try (with_reducible rfl))
      (try simp only [Act.put, List.setIfInBounds_toArray, List.set_cons_zero, List.set_cons_succ])
      refine wpAnyR_take (i := 8) (oi := ⟨some 166, _, _, _, _, _⟩) (v := ?_) (by kernel_rfl) (by kernel_rfl) rfl (by kernel_rfl) (by kernel_rfl) (by kernel_rfl) (fun _ _ _ h => h) (Or.inl ⟨by rfl, ?_⟩) (by assumption) ?_
      rotate_left
      · intro w hSw; (try dsimp only at hSw); (try go_split_ands); go_simp; (try (with_reducible rfl))
      (try simp only [Act.put, List.setIfInBounds_toArray, List.set_cons_zero, List.set_cons_succ])
      refine wpAnyR_take (i := 9) (oi := ⟨some 167, _, _, _, _, _⟩) (v := ?_) (by kernel_rfl) (by kernel_rfl) rfl (by kernel_rfl) (by kernel_rfl) (by kernel_rfl) (fun _ _ _ h => h) (Or.inl ⟨by rfl, ?_⟩) (by assumption) ?_
      rotate_left
      · intro w hSw; (try dsimp only at hSw); (try go_split_ands); go_simp; (try (with_reducible rfl))
      (try simp only [Act.put, List.setIfInBounds_toArray, List.set_cons_zero, List.set_cons_succ])
      refine wpAnyR_take (i := 10) (oi := ⟨some 168, _, _, _, _, _⟩) (v := ?_) (by kernel_rfl) (by kernel_rfl) rfl (by kernel_rfl) (by kernel_rfl) (by kernel_rfl) (fun _ _ _ h => h) (Or.inl ⟨by rfl, ?_⟩) (by assumption) ?_
      rotate_left
      · intro w hSw; (try dsimp only at hSw); (try go_split_ands); go_simp; (try (with_reducible rfl))
      (try simp only [Act.put, List.setIfInBounds_toArray, List.set_cons_zero, List.set_cons_succ])
      refine wpAnyR_one (i := 11) (o := ⟨some 169, _, _, _, _, _⟩) (by kernel_rfl) (by kernel_rfl) rfl (fun K hK => ?_)
      go_simp
      refine (hcmp v0 u0 wr.drew ((hk.trans hkr (fun _ _ h => h.elim id id)).trans (Seq.Kpt.drew _ _) (fun _ _ h => h.elim id id))).mono ?_
      rintro e w5 ⟨rfl, hb5⟩
      rw [hz]
      have hb5' : Below wr.heap.size wr w5 := (below_drew (Below.refl _ wr)).trans hb5
      have hE5 := El.kept hEe hb5'
      have hk5 := hkr.trans (Seq.Kpt.of_new (fun i => i = g) hb5') (fun _ _ h => h.elim id id)
      have c15 : w5.cell? ⟨g, d, none⟩ = some (enc v0) := (hE5.cast (ys := (p ++ (TL ++ u0 :: DL) ++ TR) ++ v0 :: (DR ++ q)) (by simp)).at (by first | omega | (simp; omega))
      have c05 : w5.cell? ⟨g, h, none⟩ = some (enc u0) := (hE5.cast (ys := (p ++ TL) ++ u0 :: (DL ++ (TR ++ v0 :: DR) ++ q)) (by simp)).at (by first | omega | (simp; omega))
      have c55 := And.intro c15 c05
      (try dsimp only)
      refine hK.out _ _ (.inr c55) ?_
      clear hK K
      (try simp only [Act.put, List.setIfInBounds_toArray, List.set_cons_zero, List.set_cons_succ])
      by_cases hz0 : z < 0
      ·
        refine wpAnyR_take (i := 12) (oi := ⟨some 170, _, _, _, _, _⟩) (v := ?_) (by kernel_rfl) (by kernel_rfl) rfl (by kernel_rfl) (by kernel_rfl) (by kernel_rfl) (fun _ _ _ h => h) (Or.inl ⟨by rfl, ?_⟩) (by assumption) ?_
        rotate_left
        · intro w hSw; (try dsimp only at hSw); (try go_split_ands); go_simp; (try (with_reducible rfl))
        (try simp only [Act.put, List.setIfInBounds_toArray, List.set_cons_zero, List.set_cons_succ])
        refine wpAnyR_take (i := 13) (oi := ⟨some 171, _, _, _, _, _⟩) (v := ?_) (by kernel_rfl) (by kernel_rfl) rfl (by kernel_rfl) (by kernel_rfl) (by kernel_rfl) (fun _ _ _ h => h) (Or.inl ⟨by rfl, ?_⟩) (by assumption) ?_
        rotate_left
        · intro w hSw; (try dsimp only at hSw); (try go_split_ands); go_simp; (try (with_reducible rfl))
        (try simp only [Act.put, List.setIfInBounds_toArray, List.set_cons_zero, List.set_cons_succ])
        refine wpAnyR_done (by kernel_rfl) ?_ _
        go_wp2
        go_roundw
        case rel =>
          refine ⟨st, h, rfl, by go_num, hst, by omega, by omega, hF1, ?_, El.cast hE5 (by rw [HU.out.1, HV.out.1]), hk5⟩
          rw [show nn - h - m = d - m + 1 by omega, HV.out.2.2, HU.out.2.1]
          intro v hv u hu
          have h1 := all_ahead hcf (by rw [← HV.out.2.2]; exact pw_take hRs _) (Lt.of_neg (by rw [hz]; exact hz0) : Lt cf v0 u0) v hv
          exact all_behind hcf (by rw [← HU.out.2.1]; exact pw_drop hLs _) h1 u hu
        case measure => simp [intOf]; omega
      ·
        refine wpAnyR_take (i := 12) (oi := ⟨some 170, _, _, _, _, _⟩) (v := ?_) (by kernel_rfl) (by kernel_rfl) rfl (by kernel_rfl) (by kernel_rfl) (by kernel_rfl) (fun _ _ _ h => h) (Or.inl ⟨by rfl, ?_⟩) (by assumption) ?_
        rotate_left
        · intro w hSw; (try dsimp only at hSw); (try go_split_ands); go_simp; (try (with_reducible rfl))
        (try simp only [Act.put, List.setIfInBounds_toArray, List.set_cons_zero, List.set_cons_succ])
        refine wpAnyR_take (i := 13) (oi := ⟨some 171, _, _, _, _, _⟩) (v := ?_) (by kernel_rfl) (by kernel_rfl) rfl (by kernel_rfl) (by kernel_rfl) (by kernel_rfl) (fun _ _ _ h => h) (Or.inl ⟨by rfl, ?_⟩) (by assumption) ?_
        rotate_left
        · intro w hSw; (try dsimp only at hSw); (try go_split_ands); go_simp; (try (with_reducible rfl))
        (try simp only [Act.put, List.setIfInBounds_toArray, List.set_cons_zero, List.set_cons_succ])
        refine wpAnyR_done (by kernel_rfl) ?_ _
        go_wp2
        go_roundw
        case rel =>
          refine ⟨h + 1, r, by go_num, rfl, by omega, by omega, hrh, ?_, hF2, El.cast hE5 (by rw [HU.out.1, HV.out.1]), hk5⟩
          rw [show h + 1 - a = h - a + 1 by omega, show nn - (h + 1) - m = d - m by omega, HU.out.2.2, HV.out.2.1]
          intro u hu v hv
          have h0 : Lt cf u0 v0 := Lt.of_not hcf (hLR u0 (by rw [HU.out.1]; simp) v0 (by rw [HV.out.1]; simp)) (by rw [hz]; exact hz0)
          have h1 := all_ahead hcf (by rw [← HU.out.2.2]; exact pw_take hLs _) h0 u hu
          exact all_behind hcf (by rw [← HV.out.2.1]; exact pw_drop hRs _) h1 v hv
        case measure => simp [intOf]; omega
    · obtain rfl : st = r := by omega
      have hlz : ¬ (st : Int) < (st : Int) := by omega
      clear hlt
      obtain ⟨en, hen⟩ : ∃ en : Nat, nn - st = en := ⟨_, rfl⟩
      have w1 : (nn : Int) - (st : Int) = (en : Int) := by omega
      have w2 : IntKind.i64.wrap (en : Int) = (en : Int) := wrapN (by omega)
      rw [hen] at hF1 hF2
      have hx1 := pw_cut hLs (st - a)
      have hx2 := pw_cut hRs (en - m)
      have hs1 := pw_take hLs (st - a)
      have hs2 := pw_drop hLs (st - a)
      have hs3 := pw_take hRs (en - m)
      have hs4 := pw_drop hRs (en - m)
      obtain ⟨L1, hL1⟩ : ∃ L1, L.take (st - a) = L1 := ⟨_, rfl⟩
      obtain ⟨L2, hL2'⟩ : ∃ L2, L.drop (st - a) = L2 := ⟨_, rfl⟩
      obtain ⟨R1, hR1⟩ : ∃ R1, R.take (en - m) = R1 := ⟨_, rfl⟩
      obtain ⟨R2, hR2'⟩ : ∃ R2, R.drop (en - m) = R2 := ⟨_, rfl⟩
      have hL12 : L = L1 ++ L2 := by rw [← hL1, ← hL2', List.take_append_drop]
      have hR12 : R = R1 ++ R2 := by rw [← hR1, ← hR2', List.take_append_drop]
      have lL1 : L1.length = st - a := by rw [← hL1, List.length_take]; omega
      have lL2 : L2.length = m - st := by rw [← hL2', List.length_drop]; omega
      have lR1 : R1.length = en - m := by rw [← hR1, List.length_take]; omega
      have lR2 : R2.length = b - en := by rw [← hR2', List.length_drop]; omega
      rw [hL1, hR2'] at hF1
      rw [hR1, hL2'] at hF2
      rw [hL1, hL2'] at hx1
      rw [hR1, hR2'] at hx2
      rw [hL1] at hs1
      rw [hL2'] at hs2
      rw [hR1] at hs3
      rw [hR2'] at hs4
      have hc1 : ∀ x ∈ L1, ∀ y ∈ R1, x < y := fun x hx y hy => hLR x (by rw [hL12]; simp [hx]) y (by rw [hR12]; simp [hy])
      have hc2 : ∀ x ∈ L2, ∀ y ∈ R2, x < y := fun x hx y hy => hLR x (by rw [hL12]; simp [hx]) y (by rw [hR12]; simp [hy])
      have hE1 := hEr.cast (ys := p ++ (L1 ++ L2) ++ (R1 ++ R2) ++ q) (by rw [← hL12, ← hR12])
      have finl : ∀ S1 S2 : List Nat, S1.Perm (L1 ++ R1) → S1.Pairwise (Lt cf) → S2.Perm (L2 ++ R2) → S2.Pairwise (Lt cf) → (S1 ++ S2).Perm (L ++ R) ∧ (S1 ++ S2).Pairwise (Lt cf) := by
        intro S1 S2 hP1 hS1 hP2 hS2
        refine ⟨?_, pw_append hS1 hS2 ?_⟩
        · rw [hL12, hR12]
          refine (hP1.append hP2).trans ?_
          rw [List.append_assoc, List.append_assoc]
          refine List.Perm.append_left L1 ?_
          rw [← List.append_assoc, ← List.append_assoc]
          exact List.Perm.append_right R2 List.perm_append_comm
        · intro x hx y hy
          have hx' := hP1.mem_iff.1 hx
          have hy' := hP2.mem_iff.1 hy
          rcases List.mem_append.1 hx' with hx' | hx' <;> rcases List.mem_append.1 hy' with hy' | hy'
          · exact hx1 x hx' y hy'
          · exact hF1 x hx' y hy'
          · exact hF2 x hx' y hy'
          · exact hx2 x hx' y hy'
      have FINL := Lib.hid finl
      clear finl hx1 hx2 hF1 hF2 hL1 hL2' hR1 hR2' hL12 hR12 hEr hLs hRs hLR hx
      by_cases v1 : st < m
      · by_cases v2 : m < en
        · have z1 : (st : Int) < (m : Int) := by omega
          have z2 : (m : Int) < (en : Int) := by omega
          go_wp2_with fail
          refine (rot_any n c st m en g _ enc rest (p ++ L1) L2 R1 (R2 ++ q) wr (hE1.cast (by simp)) (by rw [List.length_append]; omega) (by omega) (by omega) (by omega) (by omega) (by simp only [List.length_append]; omega) hn2 hform ⟨gc, lb, rfl⟩).mono ?_
          rintro e WA ⟨rfl, hk7, hEA0⟩
          have hEA := hEA0.cast (ys := p ++ (L1 ++ R1) ++ (L2 ++ R2 ++ q)) (by simp)
          have hkA := hkr.trans hk7 (fun _ _ h => h.elim id id)
          by_cases x1 : a < st
          · by_cases x2 : st < M
            · have z1 : (a : Int) < (st : Int) := by omega
              have z2 : (st : Int) < (M : Int) := by omega
              go_wp2_with fail
              refine (IH a st M p L1 R1 (L2 ++ R2 ++ q) WA (by omega) (hEA.cast (by simp)) hp (by omega) (by omega) (by simp only [List.length_append]; omega) (by omega) (by omega) hs1 hs3 hc1 (hk.trans hkA (fun _ _ h => h.elim id id))).mono ?_
              rintro e WB ⟨rfl, S1, hP1, hS1, hk8, hEB⟩
              have hkB := hkA.trans hk8 (fun _ _ h => h.elim id id)
              have hS1l : S1.length = M - a := by rw [hP1.length_eq, List.length_append]; omega
              by_cases y1 : M < en
              · by_cases y2 : en < b
                · have z1 : (M : Int) < (en : Int) := by omega
                  have z2 : (en : Int) < (b : Int) := by omega
                  go_wp2_with fail
                  refine (IH M en b (p ++ S1) L2 R2 q WB (by omega) (hEB.cast (by simp)) (by rw [List.length_append, hS1l]; omega) (by omega) (by omega) hq (by omega) (by omega) hs2 hs4 hc2 (hk.trans hkB (fun _ _ h => h.elim id id))).mono ?_
                  rintro e WC ⟨rfl, S2, hP2, hS2, hk9, hEC⟩
                  have hkC := hkB.trans hk9 (fun _ _ h => h.elim id id)
                  go_wp2
                  go_end0
                  exact ⟨rfl, S1 ++ S2, (FINL.out _ _ hP1 hS1 hP2 hS2).1, (FINL.out _ _ hP1 hS1 hP2 hS2).2, hkC, hEC.cast (by simp)⟩
                · have z1 : (M : Int) < (en : Int) := by omega
                  have z2 : ¬ (en : Int) < (b : Int) := by omega
                  go_wp2
                  go_end0
                  exact ⟨rfl, S1 ++ (L2 ++ R2), (FINL.out _ _ hP1 hS1 (List.Perm.refl _) (by rw [List.eq_nil_of_length_eq_zero (l := R2) (by omega), List.append_nil]; exact hs2)).1, (FINL.out _ _ hP1 hS1 (List.Perm.refl _) (by rw [List.eq_nil_of_length_eq_zero (l := R2) (by omega), List.append_nil]; exact hs2)).2, hkB, hEB.cast (by simp)⟩
              · have z1 : ¬ (M : Int) < (en : Int) := by omega
                go_wp2
                go_end0
                exact ⟨rfl, S1 ++ (L2 ++ R2), (FINL.out _ _ hP1 hS1 (List.Perm.refl _) (by rw [List.eq_nil_of_length_eq_zero (l := L2) (by omega), List.nil_append]; exact hs4)).1, (FINL.out _ _ hP1 hS1 (List.Perm.refl _) (by rw [List.eq_nil_of_length_eq_zero (l := L2) (by omega), List.nil_append]; exact hs4)).2, hkB, hEB.cast (by simp)⟩
            · have z1 : (a : Int) < (st : Int) := by omega
              have z2 : ¬ (st : Int) < (M : Int) := by omega
              obtain ⟨S1, hP1, hS1, hEB⟩ : ∃ S1, S1.Perm (L1 ++ R1) ∧ S1.Pairwise (Lt cf) ∧ El enc rest g (p ++ S1 ++ (L2 ++ R2 ++ q)) WA := ⟨L1 ++ R1, List.Perm.refl _, by rw [List.eq_nil_of_length_eq_zero (l := R1) (by omega), List.append_nil]; exact hs1, hEA.cast (by simp)⟩
              obtain ⟨WB, hWB⟩ : ∃ WB, WA = WB := ⟨_, rfl⟩
              have hkB := hkA
              subst hWB
              have hS1l : S1.length = M - a := by rw [hP1.length_eq, List.length_append]; omega
              by_cases y1 : M < en
              · by_cases y2 : en < b
                · have z1 : (M : Int) < (en : Int) := by omega
                  have z2 : (en : Int) < (b : Int) := by omega
                  go_wp2_with fail
                  refine (IH M en b (p ++ S1) L2 R2 q WA (by omega) (hEB.cast (by simp)) (by rw [List.length_append, hS1l]; omega) (by omega) (by omega) hq (by omega) (by omega) hs2 hs4 hc2 (hk.trans hkB (fun _ _ h => h.elim id id))).mono ?_
                  rintro e WC ⟨rfl, S2, hP2, hS2, hk9, hEC⟩
                  have hkC := hkB.trans hk9 (fun _ _ h => h.elim id id)
                  go_wp2
                  go_end0
                  exact ⟨rfl, S1 ++ S2, (FINL.out _ _ hP1 hS1 hP2 hS2).1, (FINL.out _ _ hP1 hS1 hP2 hS2).2, hkC, hEC.cast (by simp)⟩
                · have z1 : (M : Int) < (en : Int) := by omega
                  have z2 : ¬ (en : Int) < (b : Int) := by omega
                  go_wp2
                  go_end0
                  exact ⟨rfl, S1 ++ (L2 ++ R2), (FINL.out _ _ hP1 hS1 (List.Perm.refl _) (by rw [List.eq_nil_of_length_eq_zero (l := R2) (by omega), List.append_nil]; exact hs2)).1, (FINL.out _ _ hP1 hS1 (List.Perm.refl _) (by rw [List.eq_nil_of_length_eq_zero (l := R2) (by omega), List.append_nil]; exact hs2)).2, hkB, hEB.cast (by simp)⟩
              · have z1 : ¬ (M : Int) < (en : Int) := by omega
                go_wp2
                go_end0
                exact ⟨rfl, S1 ++ (L2 ++ R2), (FINL.out _ _ hP1 hS1 (List.Perm.refl _) (by rw [List.eq_nil_of_length_eq_zero (l := L2) (by omega), List.nil_append]; exact hs4)).1, (FINL.out _ _ hP1 hS1 (List.Perm.refl _) (by rw [List.eq_nil_of_length_eq_zero (l := L2) (by omega), List.nil_append]; exact hs4)).2, hkB, hEB.cast (by simp)⟩
          · have z1 : ¬ (a : Int) < (st : Int) := by omega
            obtain ⟨S1, hP1, hS1, hEB⟩ : ∃ S1, S1.Perm (L1 ++ R1) ∧ S1.Pairwise (Lt cf) ∧ El enc rest g (p ++ S1 ++ (L2 ++ R2 ++ q)) WA := ⟨L1 ++ R1, List.Perm.refl _, by rw [List.eq_nil_of_length_eq_zero (l := L1) (by omega), List.nil_append]; exact hs3, hEA.cast (by simp)⟩
            obtain ⟨WB, hWB⟩ : ∃ WB, WA = WB := ⟨_, rfl⟩
            have hkB := hkA
            subst hWB
            have hS1l : S1.length = M - a := by rw [hP1.length_eq, List.length_append]; omega
            by_cases y1 : M < en
            · by_cases y2 : en < b
              · have z1 : (M : Int) < (en : Int) := by omega
                have z2 : (en : Int) < (b : Int) := by omega
                go_wp2_with fail
                refine (IH M en b (p ++ S1) L2 R2 q WA (by omega) (hEB.cast (by simp)) (by rw [List.length_append, hS1l]; omega) (by omega) (by omega) hq (by omega) (by omega) hs2 hs4 hc2 (hk.trans hkB (fun _ _ h => h.elim id id))).mono ?_
                rintro e WC ⟨rfl, S2, hP2, hS2, hk9, hEC⟩
                have hkC := hkB.trans hk9 (fun _ _ h => h.elim id id)
                go_wp2
                go_end0
                exact ⟨rfl, S1 ++ S2, (FINL.out _ _ hP1 hS1 hP2 hS2).1, (FINL.out _ _ hP1 hS1 hP2 hS2).2, hkC, hEC.cast (by simp)⟩
              · have z1 : (M : Int) < (en : Int) := by omega
                have z2 : ¬ (en : Int) < (b : Int) := by omega
                go_wp2
                go_end0
                exact ⟨rfl, S1 ++ (L2 ++ R2), (FINL.out _ _ hP1 hS1 (List.Perm.refl _) (by rw [List.eq_nil_of_length_eq_zero (l := R2) (by omega), List.append_nil]; exact hs2)).1, (FINL.out _ _ hP1 hS1 (List.Perm.refl _) (by rw [List.eq_nil_of_length_eq_zero (l := R2) (by omega), List.append_nil]; exact hs2)).2, hkB, hEB.cast (by simp)⟩
            · have z1 : ¬ (M : Int) < (en : Int) := by omega
              go_wp2
              go_end0
              exact ⟨rfl, S1 ++ (L2 ++ R2), (FINL.out _ _ hP1 hS1 (List.Perm.refl _) (by rw [List.eq_nil_of_length_eq_zero (l := L2) (by omega), List.nil_append]; exact hs4)).1, (FINL.out _ _ hP1 hS1 (List.Perm.refl _) (by rw [List.eq_nil_of_length_eq_zero (l := L2) (by omega), List.nil_append]; exact hs4)).2, hkB, hEB.cast (by simp)⟩
        · have z1 : (st : Int) < (m : Int) := by omega
          have z2 : ¬ (m : Int) < (en : Int) := by omega
          have hEA := hE1.cast (ys := p ++ (L1 ++ R1) ++ (L2 ++ R2 ++ q)) (by rw [List.eq_nil_of_length_eq_zero (l := R1) (by omega)]; simp)
          have hkA := hkr
          by_cases x1 : a < st
          · by_cases x2 : st < M
            · have z1 : (a : Int) < (st : Int) := by omega
              have z2 : (st : Int) < (M : Int) := by omega
              go_wp2_with fail
              refine (IH a st M p L1 R1 (L2 ++ R2 ++ q) wr (by omega) (hEA.cast (by simp)) hp (by omega) (by omega) (by simp only [List.length_append]; omega) (by omega) (by omega) hs1 hs3 hc1 (hk.trans hkA (fun _ _ h => h.elim id id))).mono ?_
              rintro e WB ⟨rfl, S1, hP1, hS1, hk8, hEB⟩
              have hkB := hkA.trans hk8 (fun _ _ h => h.elim id id)
              have hS1l : S1.length = M - a := by rw [hP1.length_eq, List.length_append]; omega
              by_cases y1 : M < en
              · by_cases y2 : en < b
                · have z1 : (M : Int) < (en : Int) := by omega
                  have z2 : (en : Int) < (b : Int) := by omega
                  go_wp2_with fail
                  refine (IH M en b (p ++ S1) L2 R2 q WB (by omega) (hEB.cast (by simp)) (by rw [List.length_append, hS1l]; omega) (by omega) (by omega) hq (by omega) (by omega) hs2 hs4 hc2 (hk.trans hkB (fun _ _ h => h.elim id id))).mono ?_
                  rintro e WC ⟨rfl, S2, hP2, hS2, hk9, hEC⟩
                  have hkC := hkB.trans hk9 (fun _ _ h => h.elim id id)
                  go_wp2
                  go_end0
                  exact ⟨rfl, S1 ++ S2, (FINL.out _ _ hP1 hS1 hP2 hS2).1, (FINL.out _ _ hP1 hS1 hP2 hS2).2, hkC, hEC.cast (by simp)⟩
                · have z1 : (M : Int) < (en : Int) := by omega
                  have z2 : ¬ (en : Int) < (b : Int) := by omega
                  go_wp2
                  go_end0
                  exact ⟨rfl, S1 ++ (L2 ++ R2), (FINL.out _ _ hP1 hS1 (List.Perm.refl _) (by rw [List.eq_nil_of_length_eq_zero (l := R2) (by omega), List.append_nil]; exact hs2)).1, (FINL.out _ _ hP1 hS1 (List.Perm.refl _) (by rw [List.eq_nil_of_length_eq_zero (l := R2) (by omega), List.append_nil]; exact hs2)).2, hkB, hEB.cast (by simp)⟩
              · have z1 : ¬ (M : Int) < (en : Int) := by omega
                go_wp2
                go_end0
                exact ⟨rfl, S1 ++ (L2 ++ R2), (FINL.out _ _ hP1 hS1 (List.Perm.refl _) (by rw [List.eq_nil_of_length_eq_zero (l := L2) (by omega), List.nil_append]; exact hs4)).1, (FINL.out _ _ hP1 hS1 (List.Perm.refl _) (by rw [List.eq_nil_of_length_eq_zero (l := L2) (by omega), List.nil_append]; exact hs4)).2, hkB, hEB.cast (by simp)⟩
            · have z1 : (a : Int) < (st : Int) := by omega
              have z2 : ¬ (st : Int) < (M : Int) := by omega
              obtain ⟨S1, hP1, hS1, hEB⟩ : ∃ S1, S1.Perm (L1 ++ R1) ∧ S1.Pairwise (Lt cf) ∧ El enc rest g (p ++ S1 ++ (L2 ++ R2 ++ q)) wr := ⟨L1 ++ R1, List.Perm.refl _, by rw [List.eq_nil_of_length_eq_zero (l := R1) (by omega), List.append_nil]; exact hs1, hEA.cast (by simp)⟩
              obtain ⟨WB, hWB⟩ : ∃ WB, wr = WB := ⟨_, rfl⟩
              have hkB := hkA
              subst hWB
              have hS1l : S1.length = M - a := by rw [hP1.length_eq, List.length_append]; omega
              by_cases y1 : M < en
              · by_cases y2 : en < b
                · have z1 : (M : Int) < (en : Int) := by omega
                  have z2 : (en : Int) < (b : Int) := by omega
                  go_wp2_with fail
                  refine (IH M en b (p ++ S1) L2 R2 q wr (by omega) (hEB.cast (by simp)) (by rw [List.length_append, hS1l]; omega) (by omega) (by omega) hq (by omega) (by omega) hs2 hs4 hc2 (hk.trans hkB (fun _ _ h => h.elim id id))).mono ?_
                  rintro e WC ⟨rfl, S2, hP2, hS2, hk9, hEC⟩
                  have hkC := hkB.trans hk9 (fun _ _ h => h.elim id id)
                  go_wp2
                  go_end0
                  exact ⟨rfl, S1 ++ S2, (FINL.out _ _ hP1 hS1 hP2 hS2).1, (FINL.out _ _ hP1 hS1 hP2 hS2).2, hkC, hEC.cast (by simp)⟩
                · have z1 : (M : Int) < (en : Int) := by omega
                  have z2 : ¬ (en : Int) < (b : Int) := by omega
                  go_wp2
                  go_end0
                  exact ⟨rfl, S1 ++ (L2 ++ R2), (FINL.out _ _ hP1 hS1 (List.Perm.refl _) (by rw [List.eq_nil_of_length_eq_zero (l := R2) (by omega), List.append_nil]; exact hs2)).1, (FINL.out _ _ hP1 hS1 (List.Perm.refl _) (by rw [List.eq_nil_of_length_eq_zero (l := R2) (by omega), List.append_nil]; exact hs2)).2, hkB, hEB.cast (by simp)⟩
              · have z1 : ¬ (M : Int) < (en : Int) := by omega
                go_wp2
                go_end0
                exact ⟨rfl, S1 ++ (L2 ++ R2), (FINL.out _ _ hP1 hS1 (List.Perm.refl _) (by rw [List.eq_nil_of_length_eq_zero (l := L2) (by omega), List.nil_append]; exact hs4)).1, (FINL.out _ _ hP1 hS1 (List.Perm.refl _) (by rw [List.eq_nil_of_length_eq_zero (l := L2) (by omega), List.nil_append]; exact hs4)).2, hkB, hEB.cast (by simp)⟩
          · have z1 : ¬ (a : Int) < (st : Int) := by omega
            obtain ⟨S1, hP1, hS1, hEB⟩ : ∃ S1, S1.Perm (L1 ++ R1) ∧ S1.Pairwise (Lt cf) ∧ El enc rest g (p ++ S1 ++ (L2 ++ R2 ++ q)) wr := ⟨L1 ++ R1, List.Perm.refl _, by rw [List.eq_nil_of_length_eq_zero (l := L1) (by omega), List.nil_append]; exact hs3, hEA.cast (by simp)⟩
            obtain ⟨WB, hWB⟩ : ∃ WB, wr = WB := ⟨_, rfl⟩
            have hkB := hkA
            subst hWB
            have hS1l : S1.length = M - a := by rw [hP1.length_eq, List.length_append]; omega
            by_cases y1 : M < en
            · by_cases y2 : en < b
              · have z1 : (M : Int) < (en : Int) := by omega
                have z2 : (en : Int) < (b : Int) := by omega
                go_wp2_with fail
                refine (IH M en b (p ++ S1) L2 R2 q wr (by omega) (hEB.cast (by simp)) (by rw [List.length_append, hS1l]; omega) (by omega) (by omega) hq (by omega) (by omega) hs2 hs4 hc2 (hk.trans hkB (fun _ _ h => h.elim id id))).mono ?_
                rintro e WC ⟨rfl, S2, hP2, hS2, hk9, hEC⟩
                have hkC := hkB.trans hk9 (fun _ _ h => h.elim id id)
                go_wp2
                go_end0
                exact ⟨rfl, S1 ++ S2, (FINL.out _ _ hP1 hS1 hP2 hS2).1, (FINL.out _ _ hP1 hS1 hP2 hS2).2, hkC, hEC.cast (by simp)⟩
              · have z1 : (M : Int) < (en : Int) := by omega
                have z2 : ¬ (en : Int) < (b : Int) := by omega
                go_wp2
                go_end0
                exact ⟨rfl, S1 ++ (L2 ++ R2), (FINL.out _ _ hP1 hS1 (List.Perm.refl _) (by rw [List.eq_nil_of_length_eq_zero (l := R2) (by omega), List.append_nil]; exact hs2)).1, (FINL.out _ _ hP1 hS1 (List.Perm.refl _) (by rw [List.eq_nil_of_length_eq_zero (l := R2) (by omega), List.append_nil]; exact hs2)).2, hkB, hEB.cast (by simp)⟩
            · have z1 : ¬ (M : Int) < (en : Int) := by omega
              go_wp2
              go_end0
              exact ⟨rfl, S1 ++ (L2 ++ R2), (FINL.out _ _ hP1 hS1 (List.Perm.refl _) (by rw [List.eq_nil_of_length_eq_zero (l := L2) (by omega), List.nil_append]; exact hs4)).1, (FINL.out _ _ hP1 hS1 (List.Perm.refl _) (by rw [List.eq_nil_of_length_eq_zero (l := L2) (by omega), List.nil_append]; exact hs4)).2, hkB, hEB.cast (by simp)⟩
      · have z1 : ¬ (st : Int) < (m : Int) := by omega
        have hEA := hE1.cast (ys := p ++ (L1 ++ R1) ++ (L2 ++ R2 ++ q)) (by rw [List.eq_nil_of_length_eq_zero (l := L2) (by omega)]; simp)
        have hkA := hkr
        by_cases x1 : a < st
        · by_cases x2 : st < M
          · have z1 : (a : Int) < (st : Int) := by omega
            have z2 : (st : Int) < (M : Int) := by omega
            go_wp2_with fail
            refine (IH a st M p L1 R1 (L2 ++ R2 ++ q) wr (by omega) (hEA.cast (by simp)) hp (by omega) (by omega) (by simp only [List.length_append]; omega) (by omega) (by omega) hs1 hs3 hc1 (hk.trans hkA (fun _ _ h => h.elim id id))).mono ?_
            rintro e WB ⟨rfl, S1, hP1, hS1, hk8, hEB⟩
            have hkB := hkA.trans hk8 (fun _ _ h => h.elim id id)
            have hS1l : S1.length = M - a := by rw [hP1.length_eq, List.length_append]; omega
            by_cases y1 : M < en
            · by_cases y2 : en < b
              · have z1 : (M : Int) < (en : Int) := by omega
                have z2 : (en : Int) < (b : Int) := by omega
                go_wp2_with fail
                refine (IH M en b (p ++ S1) L2 R2 q WB (by omega) (hEB.cast (by simp)) (by rw [List.length_append, hS1l]; omega) (by omega) (by omega) hq (by omega) (by omega) hs2 hs4 hc2 (hk.trans hkB (fun _ _ h => h.elim id id))).mono ?_
                rintro e WC ⟨rfl, S2, hP2, hS2, hk9, hEC⟩
                have hkC := hkB.trans hk9 (fun _ _ h => h.elim id id)
                go_wp2
                go_end0
                exact ⟨rfl, S1 ++ S2, (FINL.out _ _ hP1 hS1 hP2 hS2).1, (FINL.out _ _ hP1 hS1 hP2 hS2).2, hkC, hEC.cast (by simp)⟩
              · have z1 : (M : Int) < (en : Int) := by omega
                have z2 : ¬ (en : Int) < (b : Int) := by omega
                go_wp2
                go_end0
                exact ⟨rfl, S1 ++ (L2 ++ R2), (FINL.out _ _ hP1 hS1 (List.Perm.refl _) (by rw [List.eq_nil_of_length_eq_zero (l := R2) (by omega), List.append_nil]; exact hs2)).1, (FINL.out _ _ hP1 hS1 (List.Perm.refl _) (by rw [List.eq_nil_of_length_eq_zero (l := R2) (by omega), List.append_nil]; exact hs2)).2, hkB, hEB.cast (by simp)⟩
            · have z1 : ¬ (M : Int) < (en : Int) := by omega
              go_wp2
              go_end0
              exact ⟨rfl, S1 ++ (L2 ++ R2), (FINL.out _ _ hP1 hS1 (List.Perm.refl _) (by rw [List.eq_nil_of_length_eq_zero (l := L2) (by omega), List.nil_append]; exact hs4)).1, (FINL.out _ _ hP1 hS1 (List.Perm.refl _) (by rw [List.eq_nil_of_length_eq_zero (l := L2) (by omega), List.nil_append]; exact hs4)).2, hkB, hEB.cast (by simp)⟩
          · have z1 : (a : Int) < (st : Int) := by omega
            have z2 : ¬ (st : Int) < (M : Int) := by omega
            obtain ⟨S1, hP1, hS1, hEB⟩ : ∃ S1, S1.Perm (L1 ++ R1) ∧ S1.Pairwise (Lt cf) ∧ El enc rest g (p ++ S1 ++ (L2 ++ R2 ++ q)) wr := ⟨L1 ++ R1, List.Perm.refl _, by rw [List.eq_nil_of_length_eq_zero (l := R1) (by omega), List.append_nil]; exact hs1, hEA.cast (by simp)⟩
            obtain ⟨WB, hWB⟩ : ∃ WB, wr = WB := ⟨_, rfl⟩
            have hkB := hkA
            subst hWB
            have hS1l : S1.length = M - a := by rw [hP1.length_eq, List.length_append]; omega
            by_cases y1 : M < en
            · by_cases y2 : en < b
              · have z1 : (M : Int) < (en : Int) := by omega
                have z2 : (en : Int) < (b : Int) := by omega
                go_wp2_with fail
                refine (IH M en b (p ++ S1) L2 R2 q wr (by omega) (hEB.cast (by simp)) (by rw [List.length_append, hS1l]; omega) (by omega) (by omega) hq (by omega) (by omega) hs2 hs4 hc2 (hk.trans hkB (fun _ _ h => h.elim id id))).mono ?_
                rintro e WC ⟨rfl, S2, hP2, hS2, hk9, hEC⟩
                have hkC := hkB.trans hk9 (fun _ _ h => h.elim id id)
                go_wp2
                go_end0
                exact ⟨rfl, S1 ++ S2, (FINL.out _ _ hP1 hS1 hP2 hS2).1, (FINL.out _ _ hP1 hS1 hP2 hS2).2, hkC, hEC.cast (by simp)⟩
              · have z1 : (M : Int) < (en : Int) := by omega
                have z2 : ¬ (en : Int) < (b : Int) := by omega
                go_wp2
                go_end0
                exact ⟨rfl, S1 ++ (L2 ++ R2), (FINL.out _ _ hP1 hS1 (List.Perm.refl _) (by rw [List.eq_nil_of_length_eq_zero (l := R2) (by omega), List.append_nil]; exact hs2)).1, (FINL.out _ _ hP1 hS1 (List.Perm.refl _) (by rw [List.eq_nil_of_length_eq_zero (l := R2) (by omega), List.append_nil]; exact hs2)).2, hkB, hEB.cast (by simp)⟩
            · have z1 : ¬ (M : Int) < (en : Int) := by omega
              go_wp2
              go_end0
              exact ⟨rfl, S1 ++ (L2 ++ R2), (FINL.out _ _ hP1 hS1 (List.Perm.refl _) (by rw [List.eq_nil_of_length_eq_zero (l := L2) (by omega), List.nil_append]; exact hs4)).1, (FINL.out _ _ hP1 hS1 (List.Perm.refl _) (by rw [List.eq_nil_of_length_eq_zero (l := L2) (by omega), List.nil_append]; exact hs4)).2, hkB, hEB.cast (by simp)⟩
        · have z1 : ¬ (a : Int) < (st : Int) := by omega
          obtain ⟨S1, hP1, hS1, hEB⟩ : ∃ S1, S1.Perm (L1 ++ R1) ∧ S1.Pairwise (Lt cf) ∧ El enc rest g (p ++ S1 ++ (L2 ++ R2 ++ q)) wr := ⟨L1 ++ R1, List.Perm.refl _, by rw [List.eq_nil_of_length_eq_zero (l := L1) (by omega), List.nil_append]; exact hs3, hEA.cast (by simp)⟩
          obtain ⟨WB, hWB⟩ : ∃ WB, wr = WB := ⟨_, rfl⟩
          have hkB := hkA
          subst hWB
          have hS1l : S1.length = M - a := by rw [hP1.length_eq, List.length_append]; omega
          by_cases y1 : M < en
          · by_cases y2 : en < b
            · have z1 : (M : Int) < (en : Int) := by omega
              have z2 : (en : Int) < (b : Int) := by omega
              go_wp2_with fail
              refine (IH M en b (p ++ S1) L2 R2 q wr (by omega) (hEB.cast (by simp)) (by rw [List.length_append, hS1l]; omega) (by omega) (by omega) hq (by omega) (by omega) hs2 hs4 hc2 (hk.trans hkB (fun _ _ h => h.elim id id))).mono ?_
              rintro e WC ⟨rfl, S2, hP2, hS2, hk9, hEC⟩
              have hkC := hkB.trans hk9 (fun _ _ h => h.elim id id)
              go_wp2
              go_end0
              exact ⟨rfl, S1 ++ S2, (FINL.out _ _ hP1 hS1 hP2 hS2).1, (FINL.out _ _ hP1 hS1 hP2 hS2).2, hkC, hEC.cast (by simp)⟩
            · have z1 : (M : Int) < (en : Int) := by omega
              have z2 : ¬ (en : Int) < (b : Int) := by omega
              go_wp2
              go_end0
              exact ⟨rfl, S1 ++ (L2 ++ R2), (FINL.out _ _ hP1 hS1 (List.Perm.refl _) (by rw [List.eq_nil_of_length_eq_zero (l := R2) (by omega), List.append_nil]; exact hs2)).1, (FINL.out _ _ hP1 hS1 (List.Perm.refl _) (by rw [List.eq_nil_of_length_eq_zero (l := R2) (by omega), List.append_nil]; exact hs2)).2, hkB, hEB.cast (by simp)⟩
          · have z1 : ¬ (M : Int) < (en : Int) := by omega
            go_wp2
            go_end0
            exact ⟨rfl, S1 ++ (L2 ++ R2), (FINL.out _ _ hP1 hS1 (List.Perm.refl _) (by rw [List.eq_nil_of_length_eq_zero (l := L2) (by omega), List.nil_append]; exact hs4)).1, (FINL.out _ _ hP1 hS1 (List.Perm.refl _) (by rw [List.eq_nil_of_length_eq_zero (l := L2) (by omega), List.nil_append]; exact hs4)).2, hkB, hEB.cast (by simp)⟩
end Go.Proofs.Ytghblnldokpceaa.QV
/- slices.SortStableFunc over rows, walked: symMerge. -/
namespace Go.Proofs.Ytghblnldokpceaa.QV
open Go.RowKit Go.Proofs.YtghblnldokpceaaW.PrintWords Go.Proofs.Ytghblnldokpceaa.SeqW Go.Shelf Go.Proofs.Ytghblnldokpceaa.Op Go.Proofs.Ytghblnldokpceaa.Stab
set_option linter.unusedVariables false
set_option linter.unusedSimpArgs false

set_option maxRecDepth 100000 in
set_option maxHeartbeats 16000000 in
theorem sym_le (g n c : Nat) (cf : Nat → Nat → Int) (gc : Nat) (lb : Array Value) (hcf : CmpOk cf) (enc : Nat → Value) (rest : List Value) (w0 : World) (hn2 : n ≤ 5864062014805)
    (hcmp : CmpAt cf enc gc lb g w0) (eg : ∀ args w, (callFunc gc args).run Try.prog w = .ok (.enter gc args) w) (hform : ∀ x, ∃ A m k, enc x = .slice A m k)
    (N : Nat) (IH : SymAt g n c cf gc lb enc rest w0 N) (a m b : Nat) (p L R q : List Nat) (W : World) (hN : b - a ≤ N + 1) (hx : El enc rest g (p ++ L ++ R ++ q) W) (hp : p.length = a) (hL : a + L.length = m) (hR : m + R.length = b) (hq : b + q.length = n) (hL2 : 2 ≤ L.length) (hR2 : 2 ≤ R.length)
    (hLs : L.Pairwise (Lt cf)) (hRs : R.Pairwise (Lt cf)) (hLR : ∀ x ∈ L, ∀ y ∈ R, x < y) (hk : Seq.Kpt (fun i => i = g) w0 W) (hside : ¬ (a + b) / 2 < m) :
    Calls Try.prog 80 #[.slice (some ⟨g, 0, none⟩) n c, .int .i64 a, .int .i64 m, .int .i64 b, .func (.func gc) #[] lb] W fun e W' => e = .returned (.tuple #[]) ∧
        ∃ S, S.Perm (L ++ R) ∧ S.Pairwise (Lt cf) ∧ Seq.Kpt (fun i => i = g) W W' ∧ El enc rest g (p ++ S ++ q) W' := by
  have mixed : Try.prog.follows .mixedOrders = true := by kernel_rfl
  obtain ⟨ll, hll⟩ : ∃ ll : Nat, L.length = ll := ⟨_, rfl⟩
  obtain ⟨lr, hlr⟩ : ∃ lr : Nat, R.length = lr := ⟨_, rfl⟩
  have e1 : (m : Int) - (a : Int) = (ll : Int) := by omega
  have e2 : IntKind.i64.wrap (ll : Int) = (ll : Int) := wrapN (by omega)
  have e3' : ¬ (ll : Int) = 1 := by omega
  have e3n : ¬ ll = 1 := by omega
  have e4 : (b : Int) - (m : Int) = (lr : Int) := by omega
  have e5 : IntKind.i64.wrap (lr : Int) = (lr : Int) := wrapN (by omega)
  have e6' : ¬ (lr : Int) = 1 := by omega
  have e3 : ((ll : Int) == 1) = false := by simp; omega
  have e6 : ((lr : Int) == 1) = false := by simp; omega
  have e6n : ¬ lr = 1 := by omega
  obtain ⟨s0, hs0⟩ : ∃ s0 : Nat, a + b = s0 := ⟨_, rfl⟩
  obtain ⟨M, hM⟩ : ∃ M : Nat, s0 / 2 = M := ⟨_, rfl⟩
  obtain ⟨nn, hnn⟩ : ∃ nn : Nat, M + m = nn := ⟨_, rfl⟩
  obtain ⟨pp, hpp⟩ : ∃ pp : Nat, nn - 1 = pp := ⟨_, rfl⟩
  have f1 : (a : Int) + (b : Int) = (s0 : Int) := by omega
  have f2 : IntKind.i64.wrap (s0 : Int) = (s0 : Int) := wrapN (by omega)
  have f3 : (s0 : Int) / 2 = (M : Int) := by omega
  have f4 : (M : Int) + (m : Int) = (nn : Int) := by omega
  have f5 : IntKind.i64.wrap (nn : Int) = (nn : Int) := wrapN (by omega)
  have f6 : (nn : Int) - 1 = (pp : Int) := by omega
  have f7 : IntKind.i64.wrap (pp : Int) = (pp : Int) := wrapN (by omega)
  have hgz : ¬ (M : Int) < (m : Int) := by omega
  go_enter Try.func80, Try.ntmps80
  go_wp2_with fail
  clear e1 e2 e3 e3' e3n e4 e5 e6 e6' e6n f1 f2 f3 f4 f5 f6 f7 hgz
  go_loopw [20, 21] (fun iv jv wr => ∃ (st r : Nat), iv = .int .i64 (st : Int) ∧ jv = .int .i64 (r : Int) ∧ a ≤ st ∧ st ≤ r ∧ r ≤ m ∧ (∀ u ∈ L.take (st - a), ∀ v ∈ R.drop (nn - st - m), Lt cf u v) ∧ (∀ v ∈ R.take (nn - r - m), ∀ u ∈ L.drop (r - a), Lt cf v u) ∧ El enc rest g (p ++ L ++ R ++ q) wr ∧ Seq.Kpt (fun i => i = g) W wr) (fun iv jv _ => (intOf jv).toNat - (intOf iv).toNat)
  case atStart => exact ⟨a, m, rfl, rfl, Nat.le_refl _, by omega, Nat.le_refl _, by rw [show a - a = 0 by omega]; simp, by rw [List.drop_of_length_le (l := L) (by omega)]; simp, hx, Seq.Kpt.refl _ _⟩
  case round =>
    obtain ⟨st, r, rfl, rfl, hst, hsr, hrh, hF1, hF2, hEr, hkr⟩ := hrel
    by_cases hlt : st < r
    · have hlz : (st : Int) < (r : Int) := by omega
      obtain ⟨s, hs⟩ : ∃ s : Nat, st + r = s := ⟨_, rfl⟩
      obtain ⟨h, hh⟩ : ∃ h : Nat, s / 2 = h := ⟨_, rfl⟩
      obtain ⟨d, hd⟩ : ∃ d : Nat, pp - h = d := ⟨_, rfl⟩
      have w1 : (st : Int) + (r : Int) = (s : Int) := by omega
      have w2 : IntKind.i64.wrap (s : Int) = (s : Int) := wrapN (by omega)
      have w3 : (s : Int) / 2 = (h : Int) := by omega
      have w4 : (h : Int) < (n : Int) := by omega
      have w4' : h < n := by omega
      have w5 : (pp : Int) - (h : Int) = (d : Int) := by omega
      have w6 : IntKind.i64.wrap (d : Int) = (d : Int) := wrapN (by omega)
      have w7 : (d : Int) < (n : Int) := by omega
      have w7' : d < n := by omega
      obtain ⟨u0, hu0, hu1, hu2⟩ := at_mid (s := L) (k := h - a) (by omega)
      obtain ⟨v0, hv0, hv1, hv2⟩ := at_mid (s := R) (k := d - m) (by omega)
      obtain ⟨TL, hTL⟩ : ∃ T, L.take (h - a) = T := ⟨_, rfl⟩
      obtain ⟨DL, hDL⟩ : ∃ D, L.drop (h - a + 1) = D := ⟨_, rfl⟩
      obtain ⟨TR, hTR⟩ : ∃ T, R.take (d - m) = T := ⟨_, rfl⟩
      obtain ⟨DR, hDR⟩ : ∃ D, R.drop (d - m + 1) = D := ⟨_, rfl⟩
      have lTL : TL.length = h - a := by rw [← hTL, List.length_take]; omega
      have lTR : TR.length = d - m := by rw [← hTR, List.length_take]; omega
      have lDL : DL.length = ll - (h - a + 1) := by rw [← hDL, List.length_drop, hll]
      rw [hTL, hDL] at hu0
      rw [hTR, hDR] at hv0
      have hEe := hEr.cast (ys := p ++ (TL ++ u0 :: DL) ++ (TR ++ v0 :: DR) ++ q) (by rw [← hu0, ← hv0])
      have HU := Lib.hid (And.intro hu0 (And.intro hu1 hu2))
      have HV := Lib.hid (And.intro hv0 (And.intro hv1 hv2))
      clear hu0 hu1 hu2 hv0 hv1 hv2 hTL hDL hTR hDR
      have c1 : wr.cell? ⟨g, d, none⟩ = some (enc v0) := (hEe.cast (ys := (p ++ (TL ++ u0 :: DL) ++ TR) ++ v0 :: (DR ++ q)) (by simp)).at (by first | omega | (simp; omega))
      have c0 : wr.cell? ⟨g, h, none⟩ = some (enc u0) := (hEe.cast (ys := (p ++ TL) ++ u0 :: (DL ++ (TR ++ v0 :: DR) ++ q)) (by simp)).at (by first | omega | (simp; omega))
      obtain ⟨z, hz⟩ : ∃ z, cf v0 u0 = z := ⟨_, rfl⟩
      go_wp2_with fail
      refine (wpIn_wide (n := 0)).1 ?_
      refine wpIn_region_R (l := 0) 14 (S := fun V => V.cell? ⟨g, d, none⟩ = some (enc v0) ∧ V.cell? ⟨g, h, none⟩ = some (enc u0)) (by kernel_rfl) ⟨c1, c0⟩ (fun hS0 => ?_)
      refine wpAnyR_take (i := 0) (oi := ⟨some 158, _, _, _, _, _⟩) (v := ?_) (by kernel_rfl) (by kernel_rfl) rfl (by kernel_rfl) (by kernel_rfl) (by kernel_rfl) (fun _ _ _ h => h) (Or.inl ⟨by rfl, ?_⟩) (by assumption) ?_
      rotate_left
      · intro w hSw; (try dsimp only at hSw); (try go_split_ands); go_simp; (try (with_reducible rfl))
      (try simp only [Act.put, List.setIfInBounds_toArray, List.set_cons_zero, List.set_cons_succ])
      refine wpAnyR_take (i := 1) (oi := ⟨some 159, _, _, _, _, _⟩) (v := ?_) (by kernel_rfl) (by kernel_rfl) rfl (by kernel_rfl) (by kernel_rfl) (by kernel_rfl) (fun _ _ _ h => h) (Or.inl ⟨by rfl, ?_⟩) (by assumption) ?_
      rotate_left
      · intro w hSw; (try dsimp only at hSw); (try go_split_ands); go_simp; (try (with_reducible rfl))
      (try simp only [Act.put, List.setIfInBounds_toArray, List.set_cons_zero, List.set_cons_succ])
      refine wpAnyR_take (i := 2) (oi := ⟨some 160, _, _, _, _, _⟩) (v := ?_) (by kernel_rfl) (by kernel_rfl) rfl (by kernel_rfl) (by kernel_rfl) (by kernel_rfl) (fun _ _ _ h => h) (Or.inl ⟨by rfl, ?_⟩) (by assumption) ?_
      rotate_left
      · intro w hSw; (try dsimp only at hSw); (try go_split_ands); go_simp; (try (with_reducible rfl))
      (try simp only [Act.put, List.setIfInBounds_toArray, List.set_cons_zero, List.set_cons_succ])
      refine wpAnyR_take (i := 3) (oi := ⟨some 161, _, _, _, _, _⟩) (v := ?_) (by kernel_rfl) (by kernel_rfl) rfl (by kernel_rfl) (by kernel_rfl) (by kernel_rfl) (fun _ _ _ h => h) (Or.inl ⟨by rfl, ?_⟩) (by assumption) ?_
      rotate_left
      · intro w hSw; (try dsimp only at hSw); (try go_split_ands); go_simp; (try (with_reducible rfl))
      (try simp only [Act.put, List.setIfInBounds_toArray, List.set_cons_zero, List.set_cons_succ])
      refine wpAnyR_take (i := 4) (oi := ⟨some 162, _, _, _, _, _⟩) (v := ?_) (by kernel_rfl) (by kernel_rfl) rfl (by kernel_rfl) (by kernel_rfl) (by kernel_rfl) (fun _ _ _ h => h) (Or.inl ⟨by rfl, ?_⟩) (by assumption) ?_
      rotate_left
      · intro w hSw; (try dsimp only at hSw); (try go_split_ands); go_simp; (try (with_reducible rfl))
      (try simp only [Act.put, List.setIfInBounds_toArray, List.set_cons_zero, List.set_cons_succ])
      refine wpAnyR_take (i := 5) (oi := ⟨some 163, _, _, _, _, _⟩) (v := ?_) (by kernel_rfl) (by kernel_rfl) rfl (by kernel_rfl) (by kernel_rfl) (by kernel_rfl) (fun _ _ _ h => h) (Or.inl ⟨by rfl, ?_⟩) (by assumption) ?_
      rotate_left
      · intro w hSw; (try dsimp only at hSw); (try go_split_ands); go_simp; (try (with_reducible rfl))
      (try simp only [Act.put, List.setIfInBounds_toArray, List.set_cons_zero, List.set_cons_succ])
      refine wpAnyR_take (i := 6) (oi := ⟨some 164, _, _, _, _, _⟩) (v := ?_) (by kernel_rfl) (by kernel_rfl) rfl (by kernel_rfl) (by kernel_rfl) (by kernel_rfl) (fun _ _ _ h => h) (Or.inl ⟨by rfl, ?_⟩) (by assumption) ?_
      rotate_left
      · intro w hSw; (try dsimp only at hSw); (try go_split_ands); go_simp; (try (with_reducible rfl))
      (try simp only [Act.put, List.setIfInBounds_toArray, List.set_cons_zero, List.set_cons_succ])
      refine wpAnyR_take (i := 7) (oi := ⟨some 165, _, _, _, _, _⟩) (v := ?_) (by kernel_rfl) (by kernel_rfl) rfl (by kernel_rfl) (by kernel_rfl) (by kernel_rfl) (fun _ _ _ h => h) (Or.inl ⟨by rfl, ?_⟩) (by assumption) ?_
      rotate_left
      · intro w hSw; (try dsimp only at hSw); (try go_split_ands); go_simp; (try (with_reducible rfl))
      (try simp only [Act.put, List.setIfInBounds_toArray, List.set_cons_zero, List.set_cons_succ])
      refine wpAnyR_take (i := 8) (oi := ⟨some 166, _, _, _, _, _⟩) (v := ?_) (by kernel_rfl) (by kernel_rfl) rfl (by kernel_rfl) (by kernel_rfl) (by kernel_rfl) (fun _ _ _ h => h) (Or.inl ⟨by rfl, ?_⟩) (by assumption) ?_
      rotate_left
      · intro w hSw; (try dsimp only at hSw); (try go_split_ands); go_simp; (try (with_reducible rfl))
      (try simp only [Act.put, List.setIfInBounds_toArray, List.set_cons_zero, List.set_cons_succ])
      refine wpAnyR_take (i := 9) (oi := ⟨some 167, _, _, _, _, _⟩) (v := ?_) (by kernel_rfl) (by kernel_rfl) rfl (by kernel_rfl) (by kernel_rfl) (by kernel_rfl) (fun _ _ _ h => h) (Or.inl ⟨by rfl, ?_⟩) (by assumption) ?_
      rotate_left
      · intro w hSw; (try dsimp only at hSw); (try go_split_ands); go_simp; (try (with_reducible rfl))
      (try simp only [Act.put, List.setIfInBounds_toArray, List.set_cons_zero, List.set_cons_succ])
      refine wpAnyR_take (i := 10) (oi := ⟨some 168, _, _, _, _, _⟩) (v := ?_) (by kernel_rfl) (by kernel_rfl) rfl (by kernel_rfl) (by kernel_rfl) (by kernel_rfl) (fun _ _ _ h => h) (Or.inl ⟨by rfl, ?_⟩) (by assumption) ?_
      rotate_left
      · intro w hSw; (try dsimp only at hSw); (try go_split_ands); go_simp; (try (with_reducible rfl))
      (try simp only [Act.put, List.setIfInBounds_toArray, List.set_cons_zero, List.set_cons_succ])
      refine wpAnyR_one (i := 11) (o := ⟨some 169, _, _, _, _, _⟩) (by kernel_rfl) (by kernel_rfl) rfl (fun K hK => ?_)
      go_simp
      refine (hcmp v0 u0 wr.drew ((hk.trans hkr (fun _ _ h => h.elim id id)).trans (Seq.Kpt.drew _ _) (fun _ _ h => h.elim id id))).mono ?_
      rintro e w5 ⟨rfl, hb5⟩
      rw [hz]
      have hb5' : Below wr.heap.size wr w5 := (below_drew (Below.refl _ wr)).trans hb5
      have hE5 := El.kept hEe hb5'
      have hk5 := hkr.trans (Seq.Kpt.of_new (fun i => i = g) hb5') (fun _ _ h => h.elim id id)
      have c15 : w5.cell? ⟨g, d, none⟩ = some (enc v0) := (hE5.cast (ys := (p ++ (TL ++ u0 :: DL) ++ TR) ++ v0 :: (DR ++ q)) (by simp)).at (by first | omega | (simp; omega))
      have c05 : w5.cell? ⟨g, h, none⟩ = some (enc u0) := (hE5.cast (ys := (p ++ TL) ++ u0 :: (DL ++ (TR ++ v0 :: DR) ++ q)) (by simp)).at (by first | omega | (simp; omega))
      have c55 := And.intro c15 c05
      (try dsimp only)
      refine hK.out _ _ (.inr c55) ?_
      clear hK K
      (try simp only [Act.put, List.setIfInBounds_toArray, List.set_cons_zero, List.set_cons_succ])
      by_cases hz0 : z < 0
      ·
        refine wpAnyR_take (i := 12) (oi := ⟨some 170, _, _, _, _, _⟩) (v := ?_) (by kernel_rfl) (by kernel_rfl) rfl (by kernel_rfl) (by kernel_rfl) (by kernel_rfl) (fun _ _ _ h => h) (Or.inl ⟨by rfl, ?_⟩) (by assumption) ?_
        rotate_left
        · intro w hSw; (try dsimp only at hSw); (try go_split_ands); go_simp; (try (with_reducible rfl))
        (try simp only [Act.put, List.setIfInBounds_toArray, List.set_cons_zero, List.set_cons_succ])
        refine wpAnyR_take (i := 13) (oi := ⟨some 171, _, _, _, _, _⟩) (v := ?_) (by kernel_rfl) (by kernel_rfl) rfl (by kernel_rfl) (by kernel_rfl) (by kernel_rfl) (fun _ _ _ h => h) (Or.inl ⟨by rfl, ?_⟩) (by assumption) ?_
        rotate_left
        · intro w hSw; (try dsimp only at hSw); (try go_split_ands); go_simp; (try (with_reducible rfl))
        (try simp only [Act.put, List.setIfInBounds_toArray, List.set_cons_zero, List.set_cons_succ])
        refine wpAnyR_done (by kernel_rfl) ?_ _
        go_wp2
        go_roundw
        case rel =>
          refine ⟨st, h, rfl, by go_num, hst, by omega, by omega, hF1, ?_, El.cast hE5 (by rw [HU.out.1, HV.out.1]), hk5⟩
          rw [show nn - h - m = d - m + 1 by omega, HV.out.2.2, HU.out.2.1]
          intro v hv u hu
          have h1 := all_ahead hcf (by rw [← HV.out.2.2]; exact pw_take hRs _) (Lt.of_neg (by rw [hz]; exact hz0) : Lt cf v0 u0) v hv
          exact all_behind hcf (by rw [← HU.out.2.1]; exact pw_drop hLs _) h1 u hu
        case measure => simp [intOf]; omega
      ·
        refine wpAnyR_take (i := 12) (oi := ⟨some 170, _, _, _, _, _⟩) (v := ?_) (by kernel_rfl) (by kernel_rfl) rfl (by kernel_rfl) (by kernel_rfl) (by kernel_rfl) (fun _ _ _ h => h) (Or.inl ⟨by rfl, ?_⟩) (by assumption) ?_
        rotate_left
        · intro w hSw; (try dsimp only at hSw); (try go_split_ands); go_simp; (try (with_reducible rfl))
        (try simp only [Act.put, List.setIfInBounds_toArray, List.set_cons_zero, List.set_cons_succ])
        refine wpAnyR_take (i := 13) (oi := ⟨some 171, _, _, _, _, _⟩) (v := ?_) (by kernel_rfl) (by kernel_rfl) rfl (by kernel_rfl) (by kernel_rfl) (by kernel_rfl) (fun _ _ _ h => h) (Or.inl ⟨by rfl, ?_⟩) (by assumption) ?_
        rotate_left
        · intro w hSw; (try dsimp only at hSw); (try go_split_ands); go_simp; (try (with_reducible rfl))
        (try simp only [Act.put, List.setIfInBounds_toArray, List.set_cons_zero, List.set_cons_succ])
        refine wpAnyR_done (by kernel_rfl) ?_ _
        go_wp2
        go_roundw
        case rel =>
          refine ⟨h + 1, r, by go_num, rfl, by omega, by omega, hrh, ?_, hF2, El.cast hE5 (by rw [HU.out.1, HV.out.1]), hk5⟩
          rw [show h + 1 - a = h - a + 1 by omega, show nn - (h + 1) - m = d - m by omega, HU.out.2.2, HV.out.2.1]
          intro u hu v hv
          have h0 : Lt cf u0 v0 := Lt.of_not hcf (hLR u0 (by rw [HU.out.1]; simp) v0 (by rw [HV.out.1]; simp)) (by rw [hz]; exact hz0)
          have h1 := all_ahead hcf (by rw [← HU.out.2.2]; exact pw_take hLs _) h0 u hu
          exact all_behind hcf (by rw [← HV.out.2.1]; exact pw_drop hRs _) h1 v hv
        case measure => simp [intOf]; omega
    · obtain rfl : st = r := by omega
      have hlz : ¬ (st : Int) < (st : Int) := by omega
      clear hlt
      obtain ⟨en, hen⟩ : ∃ en : Nat, nn - st = en := ⟨_, rfl⟩
      have w1 : (nn : Int) - (st : Int) = (en : Int) := by omega
      have w2 : IntKind.i64.wrap (en : Int) = (en : Int) := wrapN (by omega)
      rw [hen] at hF1 hF2
      have hx1 := pw_cut hLs (st - a)
      have hx2 := pw_cut hRs (en - m)
      have hs1 := pw_take hLs (st - a)
      have hs2 := pw_drop hLs (st - a)
      have hs3 := pw_take hRs (en - m)
      have hs4 := pw_drop hRs (en - m)
      obtain ⟨L1, hL1⟩ : ∃ L1, L.take (st - a) = L1 := ⟨_, rfl⟩
      obtain ⟨L2, hL2'⟩ : ∃ L2, L.drop (st - a) = L2 := ⟨_, rfl⟩
      obtain ⟨R1, hR1⟩ : ∃ R1, R.take (en - m) = R1 := ⟨_, rfl⟩
      obtain ⟨R2, hR2'⟩ : ∃ R2, R.drop (en - m) = R2 := ⟨_, rfl⟩
      have hL12 : L = L1 ++ L2 := by rw [← hL1, ← hL2', List.take_append_drop]
      have hR12 : R = R1 ++ R2 := by rw [← hR1, ← hR2', List.take_append_drop]
      have lL1 : L1.length = st - a := by rw [← hL1, List.length_take]; omega
      have lL2 : L2.length = m - st := by rw [← hL2', List.length_drop]; omega
      have lR1 : R1.length = en - m := by rw [← hR1, List.length_take]; omega
      have lR2 : R2.length = b - en := by rw [← hR2', List.length_drop]; omega
      rw [hL1, hR2'] at hF1
      rw [hR1, hL2'] at hF2
      rw [hL1, hL2'] at hx1
      rw [hR1, hR2'] at hx2
      rw [hL1] at hs1
      rw [hL2'] at hs2
      rw [hR1] at hs3
      rw [hR2'] at hs4
      have hc1 : ∀ x ∈ L1, ∀ y ∈ R1, x < y := fun x hx y hy => hLR x (by rw [hL12]; simp [hx]) y (by rw [hR12]; simp [hy])
      have hc2 : ∀ x ∈ L2, ∀ y ∈ R2, x < y := fun x hx y hy => hLR x (by rw [hL12]; simp [hx]) y (by rw [hR12]; simp [hy])
      have hE1 := hEr.cast (ys := p ++ (L1 ++ L2) ++ (R1 ++ R2) ++ q) (by rw [← hL12, ← hR12])
      have finl : ∀ S1 S2 : List Nat, S1.Perm (L1 ++ R1) → S1.Pairwise (Lt cf) → S2.Perm (L2 ++ R2) → S2.Pairwise (Lt cf) → (S1 ++ S2).Perm (L ++ R) ∧ (S1 ++ S2).Pairwise (Lt cf) := by
        intro S1 S2 hP1 hS1 hP2 hS2
        refine ⟨?_, pw_append hS1 hS2 ?_⟩
        · rw [hL12, hR12]
          refine (hP1.append hP2).trans ?_
          rw [List.append_assoc, List.append_assoc]
          refine List.Perm.append_left L1 ?_
          rw [← List.append_assoc, ← List.append_assoc]
          exact List.Perm.append_right R2 List.perm_append_comm
        · intro x hx y hy
          have hx' := hP1.mem_iff.1 hx
          have hy' := hP2.mem_iff.1 hy
          rcases List.mem_append.1 hx' with hx' | hx' <;> rcases List.mem_append.1 hy' with hy' | hy'
          · exact hx1 x hx' y hy'
          · exact hF1 x hx' y hy'
          · exact hF2 x hx' y hy'
          · exact hx2 x hx' y hy'
      have FINL := Lib.hid finl
      clear finl hx1 hx2 hF1 hF2 hL1 hL2' hR1 hR2' hL12 hR12 hEr hLs hRs hLR hx
      by_cases v1 : st < m
      · by_cases v2 : m < en
        · have z1 : (st : Int) < (m : Int) := by omega
          have z2 : (m : Int) < (en : Int) := by omega
          go_wp2_with fail
          refine (rot_any n c st m en g _ enc rest (p ++ L1) L2 R1 (R2 ++ q) wr (hE1.cast (by simp)) (by rw [List.length_append]; omega) (by omega) (by omega) (by omega) (by omega) (by simp only [List.length_append]; omega) hn2 hform ⟨gc, lb, rfl⟩).mono ?_
          rintro e WA ⟨rfl, hk7, hEA0⟩
          have hEA := hEA0.cast (ys := p ++ (L1 ++ R1) ++ (L2 ++ R2 ++ q)) (by simp)
          have hkA := hkr.trans hk7 (fun _ _ h => h.elim id id)
          by_cases x1 : a < st
          · by_cases x2 : st < M
            · have z1 : (a : Int) < (st : Int) := by omega
              have z2 : (st : Int) < (M : Int) := by omega
              go_wp2_with fail
              refine (IH a st M p L1 R1 (L2 ++ R2 ++ q) WA (by omega) (hEA.cast (by simp)) hp (by omega) (by omega) (by simp only [List.length_append]; omega) (by omega) (by omega) hs1 hs3 hc1 (hk.trans hkA (fun _ _ h => h.elim id id))).mono ?_
              rintro e WB ⟨rfl, S1, hP1, hS1, hk8, hEB⟩
              have hkB := hkA.trans hk8 (fun _ _ h => h.elim id id)
              have hS1l : S1.length = M - a := by rw [hP1.length_eq, List.length_append]; omega
              by_cases y1 : M < en
              · by_cases y2 : en < b
                · have z1 : (M : Int) < (en : Int) := by omega
                  have z2 : (en : Int) < (b : Int) := by omega
                  go_wp2_with fail
                  refine (IH M en b (p ++ S1) L2 R2 q WB (by omega) (hEB.cast (by simp)) (by rw [List.length_append, hS1l]; omega) (by omega) (by omega) hq (by omega) (by omega) hs2 hs4 hc2 (hk.trans hkB (fun _ _ h => h.elim id id))).mono ?_
                  rintro e WC ⟨rfl, S2, hP2, hS2, hk9, hEC⟩
                  have hkC := hkB.trans hk9 (fun _ _ h => h.elim id id)
                  go_wp2
                  go_end0
                  exact ⟨rfl, S1 ++ S2, (FINL.out _ _ hP1 hS1 hP2 hS2).1, (FINL.out _ _ hP1 hS1 hP2 hS2).2, hkC, hEC.cast (by simp)⟩
                · have z1 : (M : Int) < (en : Int) := by omega
                  have z2 : ¬ (en : Int) < (b : Int) := by omega
                  go_wp2
                  go_end0
                  exact ⟨rfl, S1 ++ (L2 ++ R2), (FINL.out _ _ hP1 hS1 (List.Perm.refl _) (by rw [List.eq_nil_of_length_eq_zero (l := R2) (by omega), List.append_nil]; exact hs2)).1, (FINL.out _ _ hP1 hS1 (List.Perm.refl _) (by rw [List.eq_nil_of_length_eq_zero (l := R2) (by omega), List.append_nil]; exact hs2)).2, hkB, hEB.cast (by simp)⟩
              · have z1 : ¬ (M : Int) < (en : Int) := by omega
                go_wp2
                go_end0
                exact ⟨rfl, S1 ++ (L2 ++ R2), (FINL.out _ _ hP1 hS1 (List.Perm.refl _) (by rw [List.eq_nil_of_length_eq_zero (l := L2) (by omega), List.nil_append]; exact hs4)).1, (FINL.out _ _ hP1 hS1 (List.Perm.refl _) (by rw [List.eq_nil_of_length_eq_zero (l := L2) (by omega), List.nil_append]; exact hs4)).2, hkB, hEB.cast (by simp)⟩
            · have z1 : (a : Int) < (st : Int) := by omega
              have z2 : ¬ (st : Int) < (M : Int) := by omega
              obtain ⟨S1, hP1, hS1, hEB⟩ : ∃ S1, S1.Perm (L1 ++ R1) ∧ S1.Pairwise (Lt cf) ∧ El enc rest g (p ++ S1 ++ (L2 ++ R2 ++ q)) WA := ⟨L1 ++ R1, List.Perm.refl _, by rw [List.eq_nil_of_length_eq_zero (l := R1) (by omega), List.append_nil]; exact hs1, hEA.cast (by simp)⟩
              obtain ⟨WB, hWB⟩ : ∃ WB, WA = WB := ⟨_, rfl⟩
              have hkB := hkA
              subst hWB
              have hS1l : S1.length = M - a := by rw [hP1.length_eq, List.length_append]; omega
              by_cases y1 : M < en
              · by_cases y2 : en < b
                · have z1 : (M : Int) < (en : Int) := by omega
                  have z2 : (en : Int) < (b : Int) := by omega
                  go_wp2_with fail
                  refine (IH M en b (p ++ S1) L2 R2 q WA (by omega) (hEB.cast (by simp)) (by rw [List.length_append, hS1l]; omega) (by omega) (by omega) hq (by omega) (by omega) hs2 hs4 hc2 (hk.trans hkB (fun _ _ h => h.elim id id))).mono ?_
                  rintro e WC ⟨rfl, S2, hP2, hS2, hk9, hEC⟩
                  have hkC := hkB.trans hk9 (fun _ _ h => h.elim id id)
                  go_wp2
                  go_end0
                  exact ⟨rfl, S1 ++ S2, (FINL.out _ _ hP1 hS1 hP2 hS2).1, (FINL.out _ _ hP1 hS1 hP2 hS2).2, hkC, hEC.cast (by simp)⟩
                · have z1 : (M : Int) < (en : Int) := by omega
                  have z2 : ¬ (en : Int) < (b : Int) := by omega
                  go_wp2
                  go_end0
                  exact ⟨rfl, S1 ++ (L2 ++ R2), (FINL.out _ _ hP1 hS1 (List.Perm.refl _) (by rw [List.eq_nil_of_length_eq_zero (l := R2) (by omega), List.append_nil]; exact hs2)).1, (FINL.out _ _ hP1 hS1 (List.Perm.refl _) (by rw [List.eq_nil_of_length_eq_zero (l := R2) (by omega), List.append_nil]; exact hs2)).2, hkB, hEB.cast (by simp)⟩
              · have z1 : ¬ (M : Int) < (en : Int) := by omega
                go_wp2
                go_end0
                exact ⟨rfl, S1 ++ (L2 ++ R2), (FINL.out _ _ hP1 hS1 (List.Perm.refl _) (by rw [List.eq_nil_of_length_eq_zero (l := L2) (by omega), List.nil_append]; exact hs4)).1, (FINL.out _ _ hP1 hS1 (List.Perm.refl _) (by rw [List.eq_nil_of_length_eq_zero (l := L2) (by omega), List.nil_append]; exact hs4)).2, hkB, hEB.cast (by simp)⟩
          · have z1 : ¬ (a : Int) < (st : Int) := by omega
            obtain ⟨S1, hP1, hS1, hEB⟩ : ∃ S1, S1.Perm (L1 ++ R1) ∧ S1.Pairwise (Lt cf) ∧ El enc rest g (p ++ S1 ++ (L2 ++ R2 ++ q)) WA := ⟨L1 ++ R1, List.Perm.refl _, by rw [List.eq_nil_of_length_eq_zero (l := L1) (by omega), List.nil_append]; exact hs3, hEA.cast (by simp)⟩
            obtain ⟨WB, hWB⟩ : ∃ WB, WA = WB := ⟨_, rfl⟩
            have hkB := hkA
            subst hWB
            have hS1l : S1.length = M - a := by rw [hP1.length_eq, List.length_append]; omega
            by_cases y1 : M < en
            · by_cases y2 : en < b
              · have z1 : (M : Int) < (en : Int) := by omega
                have z2 : (en : Int) < (b : Int) := by omega
                go_wp2_with fail
                refine (IH M en b (p ++ S1) L2 R2 q WA (by omega) (hEB.cast (by simp)) (by rw [List.length_append, hS1l]; omega) (by omega) (by omega) hq (by omega) (by omega) hs2 hs4 hc2 (hk.trans hkB (fun _ _ h => h.elim id id))).mono ?_
                rintro e WC ⟨rfl, S2, hP2, hS2, hk9, hEC⟩
                have hkC := hkB.trans hk9 (fun _ _ h => h.elim id id)
                go_wp2
                go_end0
                exact ⟨rfl, S1 ++ S2, (FINL.out _ _ hP1 hS1 hP2 hS2).1, (FINL.out _ _ hP1 hS1 hP2 hS2).2, hkC, hEC.cast (by simp)⟩
              · have z1 : (M : Int) < (en : Int) := by omega
                have z2 : ¬ (en : Int) < (b : Int) := by omega
                go_wp2
                go_end0
                exact ⟨rfl, S1 ++ (L2 ++ R2), (FINL.out _ _ hP1 hS1 (List.Perm.refl _) (by rw [List.eq_nil_of_length_eq_zero (l := R2) (by omega), List.append_nil]; exact hs2)).1, (FINL.out _ _ hP1 hS1 (List.Perm.refl _) (by rw [List.eq_nil_of_length_eq_zero (l := R2) (by omega), List.append_nil]; exact hs2)).2, hkB, hEB.cast (by simp)⟩
            · have z1 : ¬ (M : Int) < (en : Int) := by omega
              go_wp2
              go_end0
              exact ⟨rfl, S1 ++ (L2 ++ R2), (FINL.out _ _ hP1 hS1 (List.Perm.refl _) (by rw [List.eq_nil_of_length_eq_zero (l := L2) (by omega), List.nil_append]; exact hs4)).1, (FINL.out _ _ hP1 hS1 (List.Perm.refl _) (by rw [List.eq_nil_of_length_eq_zero (l := L2) (by omega), List.nil_append]; exact hs4)).2, hkB, hEB.cast (by simp)⟩
        · have z1 : (st : Int) < (m : Int) := by omega
          have z2 : ¬ (m : Int) < (en : Int) := by omega
          have hEA := hE1.cast (ys := p ++ (L1 ++ R1) ++ (L2 ++ R2 ++ q)) (by rw [List.eq_nil_of_length_eq_zero (l := R1) (by omega)]; simp)
          have hkA := hkr
          by_cases x1 : a < st
          · by_cases x2 : st < M
            · have z1 : (a : Int) < (st : Int) := by omega
              have z2 : (st : Int) < (M : Int) := by omega
              go_wp2_with fail
              refine (IH a st M p L1 R1 (L2 ++ R2 ++ q) wr (by omega) (hEA.cast (by simp)) hp (by omega) (by omega) (by simp only [List.length_append]; omega) (by omega) (by omega) hs1 hs3 hc1 (hk.trans hkA (fun _ _ h => h.elim id id))).mono ?_
              rintro e WB ⟨rfl, S1, hP1, hS1, hk8, hEB⟩
              have hkB := hkA.trans hk8 (fun _ _ h => h.elim id id)
              have hS1l : S1.length = M - a := by rw [hP1.length_eq, List.length_append]; omega
              by_cases y1 : M < en
              · by_cases y2 : en < b
                · have z1 : (M : Int) < (en : Int) := by omega
                  have z2 : (en : Int) < (b : Int) := by omega
                  go_wp2_with fail
                  refine (IH M en b (p ++ S1) L2 R2 q WB (by omega) (hEB.cast (by simp)) (by rw [List.length_append, hS1l]; omega) (by omega) (by omega) hq (by omega) (by omega) hs2 hs4 hc2 (hk.trans hkB (fun _ _ h => h.elim id id))).mono ?_
                  rintro e WC ⟨rfl, S2, hP2, hS2, hk9, hEC⟩
                  have hkC := hkB.trans hk9 (fun _ _ h => h.elim id id)
                  go_wp2
                  go_end0
                  exact ⟨rfl, S1 ++ S2, (FINL.out _ _ hP1 hS1 hP2 hS2).1, (FINL.out _ _ hP1 hS1 hP2 hS2).2, hkC, hEC.cast (by simp)⟩
                · have z1 : (M : Int) < (en : Int) := by omega
                  have z2 : ¬ (en : Int) < (b : Int) := by omega
                  go_wp2
                  go_end0
                  exact ⟨rfl, S1 ++ (L2 ++ R2), (FINL.out _ _ hP1 hS1 (List.Perm.refl _) (by rw [List.eq_nil_of_length_eq_zero (l := R2) (by omega), List.append_nil]; exact hs2)).1, (FINL.out _ _ hP1 hS1 (List.Perm.refl _) (by rw [List.eq_nil_of_length_eq_zero (l := R2) (by omega), List.append_nil]; exact hs2)).2, hkB, hEB.cast (by simp)⟩
              · have z1 : ¬ (M : Int) < (en : Int) := by omega
                go_wp2
                go_end0
                exact ⟨rfl, S1 ++ (L2 ++ R2), (FINL.out _ _ hP1 hS1 (List.Perm.refl _) (by rw [List.eq_nil_of_length_eq_zero (l := L2) (by omega), List.nil_append]; exact hs4)).1, (FINL.out _ _ hP1 hS1 (List.Perm.refl _) (by rw [List.eq_nil_of_length_eq_zero (l := L2) (by omega), List.nil_append]; exact hs4)).2, hkB, hEB.cast (by simp)⟩
            · have z1 : (a : Int) < (st : Int) := by omega
              have z2 : ¬ (st : Int) < (M : Int) := by omega
              obtain ⟨S1, hP1, hS1, hEB⟩ : ∃ S1, S1.Perm (L1 ++ R1) ∧ S1.Pairwise (Lt cf) ∧ El enc rest g (p ++ S1 ++ (L2 ++ R2 ++ q)) wr := ⟨L1 ++ R1, List.Perm.refl _, by rw [List.eq_nil_of_length_eq_zero (l := R1) (by omega), List.append_nil]; exact hs1, hEA.cast (by simp)⟩
              obtain ⟨WB, hWB⟩ : ∃ WB, wr = WB := ⟨_, rfl⟩
              have hkB := hkA
              subst hWB
              have hS1l : S1.length = M - a := by rw [hP1.length_eq, List.length_append]; omega
              by_cases y1 : M < en
              · by_cases y2 : en < b
                · have z1 : (M : Int) < (en : Int) := by omega
                  have z2 : (en : Int) < (b : Int) := by omega
                  go_wp2_with fail
                  refine (IH M en b (p ++ S1) L2 R2 q wr (by omega) (hEB.cast (by simp)) (by rw [List.length_append, hS1l]; omega) (by omega) (by omega) hq (by omega) (by omega) hs2 hs4 hc2 (hk.trans hkB (fun _ _ h => h.elim id id))).mono ?_
                  rintro e WC ⟨rfl, S2, hP2, hS2, hk9, hEC⟩
                  have hkC := hkB.trans hk9 (fun _ _ h => h.elim id id)
                  go_wp2
                  go_end0
                  exact ⟨rfl, S1 ++ S2, (FINL.out _ _ hP1 hS1 hP2 hS2).1, (FINL.out _ _ hP1 hS1 hP2 hS2).2, hkC, hEC.cast (by simp)⟩
                · have z1 : (M : Int) < (en : Int) := by omega
                  have z2 : ¬ (en : Int) < (b : Int) := by omega
                  go_wp2
                  go_end0
                  exact ⟨rfl, S1 ++ (L2 ++ R2), (FINL.out _ _ hP1 hS1 (List.Perm.refl _) (by rw [List.eq_nil_of_length_eq_zero (l := R2) (by omega), List.append_nil]; exact hs2)).1, (FINL.out _ _ hP1 hS1 (List.Perm.refl _) (by rw [List.eq_nil_of_length_eq_zero (l := R2) (by omega), List.append_nil]; exact hs2)).2, hkB, hEB.cast (by simp)⟩
              · have z1 : ¬ (M : Int) < (en : Int) := by omega
                go_wp2
                go_end0
                exact ⟨rfl, S1 ++ (L2 ++ R2), (FINL.out _ _ hP1 hS1 (List.Perm.refl _) (by rw [List.eq_nil_of_length_eq_zero (l := L2) (by omega), List.nil_append]; exact hs4)).1, (FINL.out _ _ hP1 hS1 (List.Perm.refl _) (by rw [List.eq_nil_of_length_eq_zero (l := L2) (by omega), List.nil_append]; exact hs4)).2, hkB, hEB.cast (by simp)⟩
          · have z1 : ¬ (a : Int) < (st : Int) := by omega
            obtain ⟨S1, hP1, hS1, hEB⟩ : ∃ S1, S1.Perm (L1 ++ R1) ∧ S1.Pairwise (Lt cf) ∧ El enc rest g (p ++ S1 ++ (L2 ++ R2 ++ q)) wr := ⟨L1 ++ R1, List.Perm.refl _, by rw [List.eq_nil_of_length_eq_zero (l := L1) (by omega), List.nil_append]; exact hs3, hEA.cast (by simp)⟩
            obtain ⟨WB, hWB⟩ : ∃ WB, wr = WB := ⟨_, rfl⟩
            have hkB := hkA
            subst hWB
            have hS1l : S1.length = M - a := by rw [hP1.length_eq, List.length_append]; omega
            by_cases y1 : M < en
            · by_cases y2 : en < b
              · have z1 : (M : Int) < (en : Int) := by omega
                have z2 : (en : Int) < (b : Int) := by omega
                go_wp2_with fail
                refine (IH M en b (p ++ S1) L2 R2 q wr (by omega) (hEB.cast (by simp)) (by rw [List.length_append, hS1l]; omega) (by omega) (by omega) hq (by omega) (by omega) hs2 hs4 hc2 (hk.trans hkB (fun _ _ h => h.elim id id))).mono ?_
                rintro e WC ⟨rfl, S2, hP2, hS2, hk9, hEC⟩
                have hkC := hkB.trans hk9 (fun _ _ h => h.elim id id)
                go_wp2
                go_end0
                exact ⟨rfl, S1 ++ S2, (FINL.out _ _ hP1 hS1 hP2 hS2).1, (FINL.out _ _ hP1 hS1 hP2 hS2).2, hkC, hEC.cast (by simp)⟩
              · have z1 : (M : Int) < (en : Int) := by omega
                have z2 : ¬ (en : Int) < (b : Int) := by omega
                go_wp2
                go_end0
                exact ⟨rfl, S1 ++ (L2 ++ R2), (FINL.out _ _ hP1 hS1 (List.Perm.refl _) (by rw [List.eq_nil_of_length_eq_zero (l := R2) (by omega), List.append_nil]; exact hs2)).1, (FINL.out _ _ hP1 hS1 (List.Perm.refl _) (by rw [List.eq_nil_of_length_eq_zero (l := R2) (by omega), List.append_nil]; exact hs2)).2, hkB, hEB.cast (by simp)⟩
            · have z1 : ¬ (M : Int) < (en : Int) := by omega
              go_wp2
              go_end0
              exact ⟨rfl, S1 ++ (L2 ++ R2), (FINL.out _ _ hP1 hS1 (List.Perm.refl _) (by rw [List.eq_nil_of_length_eq_zero (l := L2) (by omega), List.nil_append]; exact hs4)).1, (FINL.out _ _ hP1 hS1 (List.Perm.refl _) (by rw [List.eq_nil_of_length_eq_zero (l := L2) (by omega), List.nil_append]; exact hs4)).2, hkB, hEB.cast (by simp)⟩
      · have z1 : ¬ (st : Int) < (m : Int) := by omega
        have hEA := hE1.cast (ys := p ++ (L1 ++ R1) ++ (L2 ++ R2 ++ q)) (by rw [List.eq_nil_of_length_eq_zero (l := L2) (by omega)]; simp)
        have hkA := hkr
        by_cases x1 : a < st
        · by_cases x2 : st < M
          · have z1 : (a : Int) < (st : Int) := by omega
            have z2 : (st : Int) < (M : Int) := by omega
            go_wp2_with fail
            refine (IH a st M p L1 R1 (L2 ++ R2 ++ q) wr (by omega) (hEA.cast (by simp)) hp (by omega) (by omega) (by simp only [List.length_append]; omega) (by omega) (by omega) hs1 hs3 hc1 (hk.trans hkA (fun _ _ h => h.elim id id))).mono ?_
            rintro e WB ⟨rfl, S1, hP1, hS1, hk8, hEB⟩
            have hkB := hkA.trans hk8 (fun _ _ h => h.elim id id)
            have hS1l : S1.length = M - a := by rw [hP1.length_eq, List.length_append]; omega
            by_cases y1 : M < en
            · by_cases y2 : en < b
              · have z1 : (M : Int) < (en : Int) := by omega
                have z2 : (en : Int) < (b : Int) := by omega
                go_wp2_with fail
                refine (IH M en b (p ++ S1) L2 R2 q WB (by omega) (hEB.cast (by simp)) (by rw [List.length_append, hS1l]; omega) (by omega) (by omega) hq (by omega) (by omega) hs2 hs4 hc2 (hk.trans hkB (fun _ _ h => h.elim id id))).mono ?_
                rintro e WC ⟨rfl, S2, hP2, hS2, hk9, hEC⟩
                have hkC := hkB.trans hk9 (fun _ _ h => h.elim id id)
                go_wp2
                go_end0
                exact ⟨rfl, S1 ++ S2, (FINL.out _ _ hP1 hS1 hP2 hS2).1, (FINL.out _ _ hP1 hS1 hP2 hS2).2, hkC, hEC.cast (by simp)⟩
              · have z1 : (M : Int) < (en : Int) := by omega
                have z2 : ¬ (en : Int) < (b : Int) := by omega
                go_wp2
                go_end0
                exact ⟨rfl, S1 ++ (L2 ++ R2), (FINL.out _ _ hP1 hS1 (List.Perm.refl _) (by rw [List.eq_nil_of_length_eq_zero (l := R2) (by omega), List.append_nil]; exact hs2)).1, (FINL.out _ _ hP1 hS1 (List.Perm.refl _) (by rw [List.eq_nil_of_length_eq_zero (l := R2) (by omega), List.append_nil]; exact hs2)).2, hkB, hEB.cast (by simp)⟩
            · have z1 : ¬ (M : Int) < (en : Int) := by omega
              go_wp2
              go_end0
              exact ⟨rfl, S1 ++ (L2 ++ R2), (FINL.out _ _ hP1 hS1 (List.Perm.refl _) (by rw [List.eq_nil_of_length_eq_zero (l := L2) (by omega), List.nil_append]; exact hs4)).1, (FINL.out _ _ hP1 hS1 (List.Perm.refl _) (by rw [List.eq_nil_of_length_eq_zero (l := L2) (by omega), List.nil_append]; exact hs4)).2, hkB, hEB.cast (by simp)⟩
          · have z1 : (a : Int) < (st : Int) := by omega
            have z2 : ¬ (st : Int) < (M : Int) := by omega
            obtain ⟨S1, hP1, hS1, hEB⟩ : ∃ S1, S1.Perm (L1 ++ R1) ∧ S1.Pairwise (Lt cf) ∧ El enc rest g (p ++ S1 ++ (L2 ++ R2 ++ q)) wr := ⟨L1 ++ R1, List.Perm.refl _, by rw [List.eq_nil_of_length_eq_zero (l := R1) (by omega), List.append_nil]; exact hs1, hEA.cast (by simp)⟩
            obtain ⟨WB, hWB⟩ : ∃ WB, wr = WB := ⟨_, rfl⟩
            have hkB := hkA
            subst hWB
            have hS1l : S1.length = M - a := by rw [hP1.length_eq, List.length_append]; omega
            by_cases y1 : M < en
            · by_cases y2 : en < b
              · have z1 : (M : Int) < (en : Int) := by omega
                have z2 : (en : Int) < (b : Int) := by omega
                go_wp2_with fail
                refine (IH M en b (p ++ S1) L2 R2 q wr (by omega) (hEB.cast (by simp)) (by rw [List.length_append, hS1l]; omega) (by omega) (by omega) hq (by omega) (by omega) hs2 hs4 hc2 (hk.trans hkB (fun _ _ h => h.elim id id))).mono ?_
                rintro e WC ⟨rfl, S2, hP2, hS2, hk9, hEC⟩
                have hkC := hkB.trans hk9 (fun _ _ h => h.elim id id)
                go_wp2
                go_end0
                exact ⟨rfl, S1 ++ S2, (FINL.out _ _ hP1 hS1 hP2 hS2).1, (FINL.out _ _ hP1 hS1 hP2 hS2).2, hkC, hEC.cast (by simp)⟩
              · have z1 : (M : Int) < (en : Int) := by omega
                have z2 : ¬ (en : Int) < (b : Int) := by omega
                go_wp2
                go_end0
                exact ⟨rfl, S1 ++ (L2 ++ R2), (FINL.out _ _ hP1 hS1 (List.Perm.refl _) (by rw [List.eq_nil_of_length_eq_zero (l := R2) (by omega), List.append_nil]; exact hs2)).1, (FINL.out _ _ hP1 hS1 (List.Perm.refl _) (by rw [List.eq_nil_of_length_eq_zero (l := R2) (by omega), List.append_nil]; exact hs2)).2, hkB, hEB.cast (by simp)⟩
            · have z1 : ¬ (M : Int) < (en : Int) := by omega
              go_wp2
              go_end0
              exact ⟨rfl, S1 ++ (L2 ++ R2), (FINL.out _ _ hP1 hS1 (List.Perm.refl _) (by rw [List.eq_nil_of_length_eq_zero (l := L2) (by omega), List.nil_append]; exact hs4)).1, (FINL.out _ _ hP1 hS1 (List.Perm.refl _) (by rw [List.eq_nil_of_length_eq_zero (l := L2) (by omega), List.nil_append]; exact hs4)).2, hkB, hEB.cast (by simp)⟩
        · have z1 : ¬ (a : Int) < (st : Int) := by omega
          obtain ⟨S1, hP1, hS1, hEB⟩ : ∃ S1, S1.Perm (L1 ++ R1) ∧ S1.Pairwise (Lt cf) ∧ El enc rest g (p ++ S1 ++ (L2 ++ R2 ++ q)) wr := ⟨L1 ++ R1, List.Perm.refl _, by rw [List.eq_nil_of_length_eq_zero (l := L1) (by omega), List.nil_append]; exact hs3, hEA.cast (by simp)⟩
          obtain ⟨WB, hWB⟩ : ∃ WB, wr = WB := ⟨_, rfl⟩
          have hkB := hkA
          subst hWB
          have hS1l : S1.length = M - a := by rw [hP1.length_eq, List.length_append]; omega
          by_cases y1 : M < en
          · by_cases y2 : en < b
            · have z1 : (M : Int) < (en : Int) := by omega
              have z2 : (en : Int) < (b : Int) := by omega
              go_wp2_with fail
              refine (IH M en b (p ++ S1) L2 R2 q wr (by omega) (hEB.cast (by simp)) (by rw [List.length_append, hS1l]; omega) (by omega) (by omega) hq (by omega) (by omega) hs2 hs4 hc2 (hk.trans hkB (fun _ _ h => h.elim id id))).mono ?_
              rintro e WC ⟨rfl, S2, hP2, hS2, hk9, hEC⟩
              have hkC := hkB.trans hk9 (fun _ _ h => h.elim id id)
              go_wp2
              go_end0
              exact ⟨rfl, S1 ++ S2, (FINL.out _ _ hP1 hS1 hP2 hS2).1, (FINL.out _ _ hP1 hS1 hP2 hS2).2, hkC, hEC.cast (by simp)⟩
            · have z1 : (M : Int) < (en : Int) := by omega
              have z2 : ¬ (en : Int) < (b : Int) := by omega
              go_wp2
              go_end0
              exact ⟨rfl, S1 ++ (L2 ++ R2), (FINL.out _ _ hP1 hS1 (List.Perm.refl _) (by rw [List.eq_nil_of_length_eq_zero (l := R2) (by omega), List.append_nil]; exact hs2)).1, (FINL.out _ _ hP1 hS1 (List.Perm.refl _) (by rw [List.eq_nil_of_length_eq_zero (l := R2) (by omega), List.append_nil]; exact hs2)).2, hkB, hEB.cast (by simp)⟩
          · have z1 : ¬ (M : Int) < (en : Int) := by omega
            go_wp2
            go_end0
            exact ⟨rfl, S1 ++ (L2 ++ R2), (FINL.out _ _ hP1 hS1 (List.Perm.refl _) (by rw [List.eq_nil_of_length_eq_zero (l := L2) (by omega), List.nil_append]; exact hs4)).1, (FINL.out _ _ hP1 hS1 (List.Perm.refl _) (by rw [List.eq_nil_of_length_eq_zero (l := L2) (by omega), List.nil_append]; exact hs4)).2, hkB, hEB.cast (by simp)⟩
theorem sym_any (g n c : Nat) (cf : Nat → Nat → Int) (gc : Nat) (lb : Array Value) (hcf : CmpOk cf) (enc : Nat → Value) (rest : List Value) (w0 : World) (hn2 : n ≤ 5864062014805)
    (hcmp : CmpAt cf enc gc lb g w0) (eg : ∀ args w, (callFunc gc args).run Try.prog w = .ok (.enter gc args) w) (hform : ∀ x, ∃ A m k, enc x = .slice A m k) : ∀ N, SymAt g n c cf gc lb enc rest w0 N := by
  intro N
  induction N with
  | zero => intro a m b p L R q W hN hx hp hL hR hq hL0; omega
  | succ N ih =>
    intro a m b p L R q W hN hx hp hL hR hq hL0 hR0 hLs hRs hLR hk
    by_cases h1 : L.length = 1
    · obtain ⟨x, rfl⟩ : ∃ x, L = [x] := List.length_eq_one_iff.1 h1
      exact sym_one g n c cf gc lb hcf enc rest w0 hn2 hcmp eg hform a m b p R q x W hx hp (by simpa using hL) hR hq hRs (fun y hy => hLR x (by simp) y hy) hk
    · by_cases h2 : R.length = 1
      · obtain ⟨x, rfl⟩ : ∃ x, R = [x] := List.length_eq_one_iff.1 h2
        exact sym_last g n c cf gc lb hcf enc rest w0 hn2 hcmp eg hform a m b p L q x W hx hp hL (by simpa using hR) hq (by omega) hLs (fun y hy => hLR y hy x (by simp)) hk
      · by_cases hside : (a + b) / 2 < m
        · exact sym_gt g n c cf gc lb hcf enc rest w0 hn2 hcmp eg hform N ih a m b p L R q W hN hx hp hL hR hq (by omega) (by omega) hLs hRs hLR hk hside
        · exact sym_le g n c cf gc lb hcf enc rest w0 hn2 hcmp eg hform N ih a m b p L R q W hN hx hp hL hR hq (by omega) (by omega) hLs hRs hLR hk hside
end Go.Proofs.Ytghblnldokpceaa.QV
/- slices.SortStableFunc over rows, walked: blocks, and merges of blocks. -/
namespace Go.Proofs.Ytghblnldokpceaa.QV
open Go.RowKit Go.Proofs.YtghblnldokpceaaW.PrintWords Go.Proofs.Ytghblnldokpceaa.SeqW Go.Shelf Go.Proofs.Ytghblnldokpceaa.Op Go.Proofs.Ytghblnldokpceaa.Stab
set_option linter.unusedVariables false
set_option linter.unusedSimpArgs false

/-- Blocks of bs elements each, sorted, and a last one of fewer. -/
structure Runs (cf : Nat → Nat → Int) (xs : List Nat) (bs : Nat) (Bs : List (List Nat)) (T : List Nat) : Prop where
  each : ∀ B ∈ Bs, B.length = bs ∧ B.Pairwise (Lt cf)
  tags : Bs.Pairwise (fun A B => ∀ x ∈ A, ∀ y ∈ B, x < y)
  tag : ∀ x ∈ Bs.flatten, ∀ y ∈ T, x < y
  last : T.Pairwise (Lt cf)
  len : T.length < bs
  perm : (Bs.flatten ++ T).Perm xs
theorem flat_len {bs : Nat} : ∀ {Bs : List (List Nat)}, (∀ B ∈ Bs, B.length = bs) → Bs.flatten.length = bs * Bs.length
  | [], _ => by simp
  | B :: Bs, h => by
    rw [List.flatten_cons, List.length_append, flat_len (fun C hC => h C (by simp [hC])), h B (by simp), List.length_cons, Nat.mul_succ]; omega
/-- While the blocks are merged two by two: those that are merged, those that are not yet. -/
structure Mid (cf : Nat → Nat → Int) (xs : List Nat) (bs : Nat) (D Bs : List (List Nat)) (T : List Nat) : Prop where
  eachD : ∀ B ∈ D, B.length = 2 * bs ∧ B.Pairwise (Lt cf)
  each : ∀ B ∈ Bs, B.length = bs ∧ B.Pairwise (Lt cf)
  tags : (D ++ Bs).Pairwise (fun A B => ∀ x ∈ A, ∀ y ∈ B, x < y)
  tag : ∀ x ∈ (D ++ Bs).flatten, ∀ y ∈ T, x < y
  last : T.Pairwise (Lt cf)
  len : T.length < bs
  perm : ((D ++ Bs).flatten ++ T).Perm xs
theorem Mid.start {cf : Nat → Nat → Int} {xs : List Nat} {bs : Nat} {Bs : List (List Nat)} {T : List Nat} (h : Runs cf xs bs Bs T) : Mid cf xs bs [] Bs T :=
  ⟨by simp, h.each, h.tags, h.tag, h.last, h.len, h.perm⟩
theorem Mid.lens {cf : Nat → Nat → Int} {xs : List Nat} {bs : Nat} {D Bs : List (List Nat)} {T : List Nat} (h : Mid cf xs bs D Bs T) : D.flatten.length = 2 * bs * D.length ∧ Bs.flatten.length = bs * Bs.length ∧ D.flatten.length + Bs.flatten.length + T.length = xs.length := by
  refine ⟨flat_len (fun B hB => (h.eachD B hB).1), flat_len (fun B hB => (h.each B hB).1), ?_⟩
  have := h.perm.length_eq
  rw [List.flatten_append, List.length_append, List.length_append] at this
  exact this
/-- Two blocks are merged. -/
theorem Mid.step {cf : Nat → Nat → Int} {xs : List Nat} {bs : Nat} {D Bs : List (List Nat)} {T B1 B2 S : List Nat} (h : Mid cf xs bs D (B1 :: B2 :: Bs) T) (hS : S.Perm (B1 ++ B2)) (hs : S.Pairwise (Lt cf)) : Mid cf xs bs (D ++ [S]) Bs T := by
  have hmem : ∀ x, x ∈ S ↔ x ∈ B1 ∨ x ∈ B2 := fun x => by rw [hS.mem_iff, List.mem_append]
  have hl : S.length = 2 * bs := by rw [hS.length_eq, List.length_append, (h.each B1 (by simp)).1, (h.each B2 (by simp)).1]; omega
  have hflat : ∀ x, x ∈ (D ++ [S] ++ Bs).flatten ↔ x ∈ (D ++ B1 :: B2 :: Bs).flatten := fun x => by
    simp only [List.flatten_append, List.mem_append, List.flatten_cons, List.flatten_nil, List.append_nil, hmem]
    constructor
    · rintro ((h | h | h) | h)
      · exact .inl h
      · exact .inr (.inl h)
      · exact .inr (.inr (.inl h))
      · exact .inr (.inr (.inr h))
    · rintro (h | h | h | h)
      · exact .inl (.inl h)
      · exact .inl (.inr (.inl h))
      · exact .inl (.inr (.inr h))
      · exact .inr h
  refine ⟨?_, fun B hB => h.each B (by simp [hB]), ?_, fun x hx => h.tag x ((hflat x).1 hx), h.last, h.len, ?_⟩
  · intro B hB
    rcases List.mem_append.1 hB with hB | hB
    · exact h.eachD B hB
    · rw [List.mem_singleton.1 hB]; exact ⟨hl, hs⟩
  · have ht := h.tags
    rw [List.pairwise_append] at ht
    obtain ⟨t1, t2, t3⟩ := ht
    rw [List.pairwise_cons] at t2
    obtain ⟨t4, t5⟩ := t2
    rw [List.pairwise_cons] at t5
    obtain ⟨t6, t7⟩ := t5
    rw [List.append_assoc, List.pairwise_append]
    refine ⟨t1, ?_, ?_⟩
    · rw [List.singleton_append, List.pairwise_cons]
      refine ⟨fun B hB x hx y hy => ?_, t7⟩
      rcases (hmem x).1 hx with hx | hx
      · exact t4 B (by simp [hB]) x hx y hy
      · exact t6 B hB x hx y hy
    · intro A hA B hB x hx y hy
      rw [List.singleton_append] at hB
      rcases List.mem_cons.1 hB with hB | hB
      · rw [hB] at hy
        rcases (hmem y).1 hy with hy | hy
        · exact t3 A hA B1 (by simp) x hx y hy
        · exact t3 A hA B2 (by simp) x hx y hy
      · exact t3 A hA B (by simp [hB]) x hx y hy
  · refine List.Perm.trans ?_ h.perm
    refine List.Perm.append_right T ?_
    simp only [List.flatten_append, List.flatten_cons, List.flatten_nil, List.append_nil]
    rw [List.append_assoc]
    refine List.Perm.append_left _ ?_
    rw [← List.append_assoc]
    exact List.Perm.append_right _ hS
/-- The end of a pass. -/
theorem Mid.ends {cf : Nat → Nat → Int} {xs : List Nat} {bs : Nat} {D Bs : List (List Nat)} {T S : List Nat} (h : Mid cf xs bs D Bs T) (hS : S.Perm (Bs.flatten ++ T)) (hs : S.Pairwise (Lt cf)) (hl : S.length < 2 * bs) : Runs cf xs (2 * bs) D S := by
  refine ⟨h.eachD, (List.pairwise_append.1 h.tags).1, fun x hx y hy => ?_, hs, hl, ?_⟩
  · rcases List.mem_append.1 (hS.mem_iff.1 hy) with hy | hy
    · obtain ⟨A, hA, hxA⟩ := List.mem_flatten.1 hx
      obtain ⟨B, hB, hyB⟩ := List.mem_flatten.1 hy
      exact (List.pairwise_append.1 h.tags).2.2 A hA B hB x hxA y hyB
    · exact h.tag x (by rw [List.flatten_append]; simp [hx]) y hy
  · refine List.Perm.trans ?_ h.perm
    rw [List.flatten_append, List.append_assoc]
    exact List.Perm.append_left _ hS
/-- The end of all. -/
theorem Runs.done {cf : Nat → Nat → Int} {xs : List Nat} {bs : Nat} {Bs : List (List Nat)} {T : List Nat} (h : Runs cf xs bs Bs T) (hb : xs.length ≤ bs) (h0 : 0 < bs) : (Bs.flatten ++ T).Pairwise (Lt cf) := by
  have hl := h.perm.length_eq
  rw [List.length_append, flat_len (fun B hB => (h.each B hB).1)] at hl
  match Bs, h, hl with
  | [], h, _ => simpa using h.last
  | [B], h, hl =>
    have : T = [] := List.eq_nil_of_length_eq_zero (by simp at hl; omega)
    subst this
    simpa using (h.each B (by simp)).2
  | A :: B :: Bs, h, hl =>
    exfalso
    rw [List.length_cons, List.length_cons, Nat.mul_succ, Nat.mul_succ] at hl
    omega
end Go.Proofs.Ytghblnldokpceaa.QV
/- slices.stableCmpFunc, slices.SortStableFunc over rows, walked. -/
namespace Go.Proofs.Ytghblnldokpceaa.QV
open Go.RowKit Go.Proofs.YtghblnldokpceaaW.PrintWords Go.Proofs.Ytghblnldokpceaa.SeqW Go.Shelf Go.Proofs.Ytghblnldokpceaa.Op Go.Proofs.Ytghblnldokpceaa.Stab
set_option linter.unusedVariables false
set_option linter.unusedSimpArgs false

set_option maxRecDepth 100000 in
set_option maxHeartbeats 4000000 in
theorem stable_any (g n c : Nat) (cf : Nat → Nat → Int) (gc : Nat) (lb : Array Value) (hcf : CmpOk cf) (enc : Nat → Value) (rest : List Value) (hn2 : n ≤ 5864062014805)
    (eg : ∀ args w, (callFunc gc args).run Try.prog w = .ok (.enter gc args) w) (hform : ∀ x, ∃ A m k, enc x = .slice A m k)
    (xs : List Nat) (W : World) (hx : El enc rest g xs W) (hn : xs.length = n) (hasc : xs.Pairwise (· < ·)) (hcmp : CmpAt cf enc gc lb g W) :
    Calls Try.prog 70 #[.slice (some ⟨g, 0, none⟩) n c, .int .i64 n, .func (.func gc) #[] lb] W fun e W' => e = .returned (.tuple #[]) ∧
      ∃ S, S.Perm xs ∧ S.Pairwise (Lt cf) ∧ Seq.Kpt (fun i => i = g) W W' ∧ El enc rest g S W' := by
  have SYM : ∀ N, SymAt g n c cf gc lb enc rest W N := sym_any g n c cf gc lb hcf enc rest W hn2 hcmp eg hform
  go_enter Try.func70, Try.ntmps70
  go_wp2_with fail
  go_loopw [7, 8] (fun av bv wr => ∃ (a b : Nat) (Bs : List (List Nat)), av = .int .i64 (a : Int) ∧ bv = .int .i64 (b : Int) ∧ a + 20 = b ∧ a ≤ n ∧ Bs.flatten.length = a ∧ (∀ B ∈ Bs, B.length = 20 ∧ B.Pairwise (Lt cf)) ∧ Bs.Pairwise (fun A B => ∀ x ∈ A, ∀ y ∈ B, x < y) ∧ Bs.flatten.Perm (xs.take a) ∧ El enc rest g (Bs.flatten ++ xs.drop a) wr ∧ Seq.Kpt (fun i => i = g) W wr) (fun av _ _ => n - (intOf av).toNat)
  case atStart => exact ⟨0, 20, [], rfl, rfl, rfl, Nat.zero_le _, rfl, by simp, by simp, by simp, by simpa using hx, Seq.Kpt.refl _ _⟩
  case round =>
    obtain ⟨a, b, Bs, rfl, rfl, hab, han, hfl, hea, htg, hpm, hE, hk⟩ := hrel
    by_cases hlt : b ≤ n
    · have hlz : (b : Int) ≤ (n : Int) := by omega
      have hcut := pw_cut hasc a
      obtain ⟨s, hs⟩ : ∃ s, (xs.drop a).take 20 = s := ⟨_, rfl⟩
      have hsl : s.length = 20 := by rw [← hs, List.length_take, List.length_drop]; omega
      have hsd : xs.drop a = s ++ xs.drop b := by rw [← hs, ← hab, ← List.drop_drop, List.take_append_drop]
      have hst : xs.take b = xs.take a ++ s := by rw [← hs, ← hab, List.take_add]
      have hsa : s.Pairwise (· < ·) := by rw [← hs]; exact pw_take (pw_drop hasc a) 20
      have hE1 := hE.cast (ys := Bs.flatten ++ s ++ xs.drop b) (by rw [hsd]; simp)
      have hdl : (xs.drop b).length = n - b := by rw [List.length_drop, hn]
      obtain ⟨b2, hb2⟩ : ∃ b2 : Nat, b + 20 = b2 := ⟨_, rfl⟩
      have w1 : (b : Int) + 20 = (b2 : Int) := by omega
      have w2 : IntKind.i64.wrap (b2 : Int) = (b2 : Int) := wrapN (by omega)
      go_wp2_with fail
      refine (ins_any n c a b g cf gc lb hcf enc rest Bs.flatten s (xs.drop b) W wr hE1 hfl (by omega) (by rw [List.length_append, List.length_append]; omega) hn2 hsa hk hcmp eg hform).mono ?_
      rintro e w5 ⟨rfl, s', hp', hs', hk5, hE5⟩
      go_wp2
      go_roundw
      case rel =>
        have hmem : ∀ y ∈ s', y ∈ xs.drop a := fun y hy => by rw [hsd]; exact List.mem_append.2 (.inl (hp'.mem_iff.1 hy))
        refine ⟨b, b2, Bs ++ [s'], rfl, rfl, hb2, hlt, ?_, ?_, ?_, ?_, hE5.cast (by simp), hk.trans hk5 (fun _ _ h => h.elim id id)⟩
        · rw [List.flatten_append, List.length_append, hfl]; simp [hp'.length_eq]; omega
        · intro B hB
          rcases List.mem_append.1 hB with hB | hB
          · exact hea B hB
          · rw [List.mem_singleton.1 hB]; exact ⟨by rw [hp'.length_eq]; exact hsl, hs'⟩
        · rw [List.pairwise_append]
          refine ⟨htg, by simp, fun A hA B hB x hx y hy => ?_⟩
          rw [List.mem_singleton.1 hB] at hy
          exact hcut x (hpm.mem_iff.1 (List.mem_flatten.2 ⟨A, hA, hx⟩)) y (hmem y hy)
        · rw [hst, List.flatten_append]
          simpa using hpm.append hp'
      case measure => simp [intOf]; omega
    · have hlz : ¬ (b : Int) ≤ (n : Int) := by omega
      have hcut := pw_cut hasc a
      have hdl : (xs.drop a).length = n - a := by rw [List.length_drop, hn]
      go_wp2_with fail
      refine (ins_any n c a n g cf gc lb hcf enc rest Bs.flatten (xs.drop a) [] W wr (hE.cast (by simp)) hfl (by omega) (by rw [List.append_nil, List.length_append]; omega) hn2 (pw_drop hasc a) hk hcmp eg hform).mono ?_
      rintro e w5 ⟨rfl, T, hpT, hsT, hk5, hE5⟩
      have hR0 : Runs cf xs 20 Bs T := by
        refine ⟨hea, htg, fun x hx y hy => hcut x (hpm.mem_iff.1 hx) y (hpT.mem_iff.1 hy), hsT, by rw [hpT.length_eq]; omega, ?_⟩
        have := hpm.append hpT
        rwa [List.take_append_drop] at this
      have hE6 := hE5.cast (ys := Bs.flatten ++ T) (by simp)
      have hk6 := hk.trans hk5 (fun _ _ h => h.elim id id)
      clear hE5 hk5 hE hk hpT hsT hpm hea htg hcut
      go_wp2_with fail
      clear hdl hfl hlz
      go_loopw [6] (fun sv wr => ∃ (bs : Nat) (Bs : List (List Nat)) (T : List Nat), sv = .int .i64 (bs : Int) ∧ 20 ≤ bs ∧ bs ≤ 2 * n + 40 ∧ Runs cf xs bs Bs T ∧ El enc rest g (Bs.flatten ++ T) wr ∧ Seq.Kpt (fun i => i = g) W wr) (fun sv _ => n - (intOf sv).toNat)
      case atStart => exact ⟨20, Bs, T, rfl, by omega, by omega, hR0, hE6, hk6⟩
      case round =>
        clear hR0 hE6 hk6
        obtain ⟨bs, Bs, T, rfl, hbs1, hbs2, hRn, hEr, hkr⟩ := hrel
        by_cases hlt2 : bs < n
        · have hlz2 : (bs : Int) < (n : Int) := by omega
          obtain ⟨b2, hb2⟩ : ∃ b2 : Nat, 2 * bs = b2 := ⟨_, rfl⟩
          have w1 : (2 : Int) * (bs : Int) = (b2 : Int) := by omega
          have w1' : (bs : Int) * 2 = (b2 : Int) := by omega
          have w2 : IntKind.i64.wrap (b2 : Int) = (b2 : Int) := wrapN (by omega)
          have w3 : IntKind.i64.wrap 2 = 2 := by rfl
          have hM0 := Mid.start hRn
          go_wp2_with fail
          go_loopw [7, 8] (fun av bv wq => ∃ (a b : Nat) (D B' : List (List Nat)), av = .int .i64 (a : Int) ∧ bv = .int .i64 (b : Int) ∧ a + b2 = b ∧ D.flatten.length = a ∧ Mid cf xs bs D B' T ∧ El enc rest g (D.flatten ++ B'.flatten ++ T) wq ∧ Seq.Kpt (fun i => i = g) W wq) (fun av _ _ => n - (intOf av).toNat)
          case atStart => exact ⟨0, b2, [], Bs, rfl, rfl, by omega, rfl, hM0, hEr.cast (by simp), hkr⟩
          case round =>
            clear hM0 hRn hEr hkr
            obtain ⟨a, b, D, B', rfl, rfl, hab, hDl, hMd, hEq, hkq⟩ := hrel
            obtain ⟨hl1, hl2, hl3⟩ := hMd.lens
            have hTl := hMd.len
            rw [hDl, hn] at hl3
            obtain ⟨am, ham⟩ : ∃ am : Nat, a + bs = am := ⟨_, rfl⟩
            have v1 : (a : Int) + (bs : Int) = (am : Int) := by omega
            have v2 : IntKind.i64.wrap (am : Int) = (am : Int) := wrapN (by omega)
            by_cases hbn : b ≤ n
            · have hbz : (b : Int) ≤ (n : Int) := by omega
              have hB2l : ¬ B'.length < 2 := by
                intro hc
                rcases (by omega : B'.length = 0 ∨ B'.length = 1) with h | h
                · rw [h] at hl2; omega
                · rw [h] at hl2; omega
              obtain ⟨B1, B2, B'', rfl⟩ : ∃ B1 B2 B'', B' = B1 :: B2 :: B'' := by
                match B', hB2l with
                | [], h => simp at h
                | [B], h => simp at h
                | B1 :: B2 :: B'', _ => exact ⟨B1, B2, B'', rfl⟩
              have hB1 := hMd.each B1 (by simp)
              have hB2 := hMd.each B2 (by simp)
              have htg := List.pairwise_append.1 hMd.tags
              have ht12 := (List.pairwise_cons.1 htg.2.1).1 B2 (by simp)
              obtain ⟨b3, hb3⟩ : ∃ b3 : Nat, b + b2 = b3 := ⟨_, rfl⟩
              have v3 : (b : Int) + (b2 : Int) = (b3 : Int) := by omega
              have v4 : IntKind.i64.wrap (b3 : Int) = (b3 : Int) := wrapN (by omega)
              obtain ⟨Q, hQ⟩ : ∃ Q, B''.flatten ++ T = Q := ⟨_, rfl⟩
              have hQl : b + Q.length = n := by
                rw [← hQ, List.length_append]
                rw [List.flatten_cons, List.flatten_cons, List.length_append, List.length_append, hB1.1, hB2.1] at hl3
                omega
              have hE1 := hEq.cast (ys := D.flatten ++ B1 ++ B2 ++ Q) (by rw [← hQ]; simp)
              clear hl1 hl2 hl3
              go_wp2_with fail
              refine (SYM (b - a) a am b D.flatten B1 B2 Q wr (Nat.le_refl _) hE1 hDl (by omega) (by omega) hQl (by omega) (by omega) hB1.2 hB2.2 ht12 hkq).mono ?_
              rintro e w6 ⟨rfl, S, hpS, hsS, hk7, hE7⟩
              have hM2 := hMd.step hpS hsS
              go_wp2
              go_roundw
              case rel => exact ⟨b, b3, D ++ [S], B'', rfl, rfl, hb3, by rw [List.flatten_append, List.length_append, hDl]; simp [hpS.length_eq]; omega, hM2, hE7.cast (by rw [← hQ]; simp), hkq.trans hk7 (fun _ _ h => h.elim id id)⟩
              case measure => simp [intOf]; omega
            · have hbz : ¬ (b : Int) ≤ (n : Int) := by omega
              by_cases hmn : am < n
              · have hmz : (am : Int) < (n : Int) := by omega
                have hB1l : B'.length = 1 := by
                  rcases (show B'.length = 0 ∨ B'.length = 1 ∨ ∃ k, B'.length = k + 2 from by
                    rcases h : B'.length with _ | _ | k
                    · exact .inl rfl
                    · exact .inr (.inl rfl)
                    · exact .inr (.inr ⟨k, rfl⟩)) with h | h | ⟨k, h⟩
                  · rw [h] at hl2; omega
                  · exact h
                  · rw [h, Nat.mul_add] at hl2; omega
                obtain ⟨B, rfl⟩ : ∃ B, B' = [B] := List.length_eq_one_iff.1 hB1l
                have hB1 := hMd.each B (by simp)
                have hl4 : a + bs + T.length = n := by rw [← hl3]; simp [hB1.1]
                have htg : ∀ x ∈ B, ∀ y ∈ T, x < y := fun x hx y hy => hMd.tag x (by simp [hx]) y hy
                have hE1 := hEq.cast (ys := D.flatten ++ B ++ T ++ []) (by simp)
                have hlT := hMd.last
                clear hl1 hl2 hl3
                go_wp2_with fail
                refine (SYM (n - a) a am n D.flatten B T [] wr (Nat.le_refl _) hE1 hDl (by omega) (by omega) (by simp) (by omega) (by omega) hB1.2 hlT htg hkq).mono ?_
                rintro e w6 ⟨rfl, S, hpS, hsS, hk7, hE7⟩
                have hM2 := hMd.ends (S := S) (hpS.trans (by simp)) hsS (by rw [hpS.length_eq, List.length_append]; omega)
                go_wp2
                go_roundw
                case rel => exact ⟨b2, D, S, rfl, by omega, by omega, by rw [← hb2]; exact hM2, hE7.cast (by simp), hkq.trans hk7 (fun _ _ h => h.elim id id)⟩
                case measure => simp [intOf]; omega
              · have hmz : ¬ (am : Int) < (n : Int) := by omega
                have hsS : (B'.flatten ++ T).Pairwise (Lt cf) := by
                  rcases (show B'.length = 0 ∨ B'.length = 1 ∨ ∃ k, B'.length = k + 2 from by
                    rcases h : B'.length with _ | _ | k
                    · exact .inl rfl
                    · exact .inr (.inl rfl)
                    · exact .inr (.inr ⟨k, rfl⟩)) with h | h | ⟨k, h⟩
                  · rw [List.eq_nil_of_length_eq_zero h]; simpa using hMd.last
                  · have hT0 : T = [] := List.eq_nil_of_length_eq_zero (by rw [h] at hl2; omega)
                    obtain ⟨B, rfl⟩ : ∃ B, B' = [B] := List.length_eq_one_iff.1 h
                    rw [hT0]
                    simpa using (hMd.each B (by simp)).2
                  · rw [h, Nat.mul_add] at hl2; omega
                have hM2 := hMd.ends (S := B'.flatten ++ T) (List.Perm.refl _) hsS (by rw [List.length_append]; omega)
                clear hl1 hl2 hl3 hsS
                go_wp2
                go_roundw
                case rel => exact ⟨b2, D, B'.flatten ++ T, rfl, by omega, by omega, by rw [← hb2]; exact hM2, hEq.cast (by simp), hkq⟩
                case measure => simp [intOf]; omega
        · have hlz2 : ¬ (bs : Int) < (n : Int) := by omega
          go_wp2
          go_end0
          exact ⟨rfl, _, hRn.perm, hRn.done (by omega) (by omega), hkr, hEr⟩

theorem sortStable_any (g n c : Nat) (cf : Nat → Nat → Int) (gc : Nat) (lb : Array Value) (hcf : CmpOk cf) (enc : Nat → Value) (rest : List Value) (hn2 : n ≤ 5864062014805)
    (eg : ∀ args w, (callFunc gc args).run Try.prog w = .ok (.enter gc args) w) (hform : ∀ x, ∃ A m k, enc x = .slice A m k)
    (xs : List Nat) (W : World) (hx : El enc rest g xs W) (hn : xs.length = n) (hasc : xs.Pairwise (· < ·)) (hcmp : CmpAt cf enc gc lb g W) :
    Calls Try.prog 50 #[.slice (some ⟨g, 0, none⟩) n c, .func (.func gc) #[] lb] W fun e W' => e = .returned (.tuple #[]) ∧
      ∃ S, S.Perm xs ∧ S.Pairwise (Lt cf) ∧ Seq.Kpt (fun i => i = g) W W' ∧ El enc rest g S W' := by
  go_enter Try.func50, Try.ntmps50
  go_wp2_with fail
  refine (stable_any g n c cf gc lb hcf enc rest hn2 eg hform xs W hx hn hasc hcmp).mono ?_
  rintro e w5 ⟨rfl, h⟩
  go_wp2
  go_end0
  exact ⟨rfl, h⟩
end Go.Proofs.Ytghblnldokpceaa.QV
/- Printed by mp.py (this session's) with the kit's print: plain functions with the answers of the Go code, and the proofs of it. -/
namespace Go.Proofs.Ytghblnldokpceaa.QV
open Go.RowKit Go.Proofs.YtghblnldokpceaaW.PrintWords Go.Proofs.YtghblnldokpceaaW.PrintLast Go.Proofs.YtghblnldokpceaaW.PrintMore
attribute [local go_sem] max2_int min2_int max_two min_two max_three min_three max_four min_four   -- for this text's walks alone
set_option linter.unusedVariables false
set_option linter.unusedSimpArgs false

theorem eqA42 (d : Nat) (w : World) (x0 y0 : Int) (x1 y1 : Bool) (x2 y2 : Int) (x3 y3 : ByteArray) :
    (Op.equalIn (d + 2) 42 (.agg #[.int .i64 x0, .bool x1, .int .i64 x2, .string x3]) (.agg #[.int .i64 y0, .bool y1, .int .i64 y2, .string y3])).run Try.prog w = .ok (x0 == y0 && (x1 == y1 && (x2 == y2 && (x3.toList == y3.toList)))) w := by
  refine eqA_of Try.underlying42 (by kernel_rfl) ?_
  refine eqf_cons (by rfl) (by go_simp; rfl) (by go_simp; rfl) (by go_simp) ?_
  refine eqf_cons (by rfl) (by go_simp; rfl) (by go_simp; rfl) (by go_simp) ?_
  refine eqf_cons (by rfl) (by go_simp; rfl) (by go_simp; rfl) (by go_simp) ?_
  exact eqf_last (by rfl) (by go_simp; rfl) (by go_simp; rfl) (by go_simp)
end Go.Proofs.Ytghblnldokpceaa.QV
/- Printed by mp.py (this session's) with the kit's print: plain functions with the answers of the Go code, and the proofs of it. -/
namespace Go.Proofs.Ytghblnldokpceaa.QV
open Go.RowKit Go.Proofs.YtghblnldokpceaaW.PrintWords Go.Proofs.YtghblnldokpceaaW.PrintLast Go.Proofs.YtghblnldokpceaaW.PrintMore
attribute [local go_sem] max2_int min2_int max_two min_two max_three min_three max_four min_four   -- for this text's walks alone
set_option linter.unusedVariables false
set_option linter.unusedSimpArgs false

theorem eqA83 (d : Nat) (w : World) (x0 y0 : Int) (x1 y1 : Int) :
    (Op.equalIn (d + 2) 83 (.agg #[.int .u64 x0, .int .u32 x1]) (.agg #[.int .u64 y0, .int .u32 y1])).run Try.prog w = .ok (x0 == y0 && (x1 == y1)) w := by
  refine eqA_of Try.underlying83 (by kernel_rfl) ?_
  refine eqf_cons (by rfl) (by go_simp; rfl) (by go_simp; rfl) (by go_simp) ?_
  exact eqf_last (by rfl) (by go_simp; rfl) (by go_simp; rfl) (by go_simp)
end Go.Proofs.Ytghblnldokpceaa.QV
