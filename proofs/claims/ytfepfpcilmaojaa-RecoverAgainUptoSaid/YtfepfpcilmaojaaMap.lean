/- Maps keyed by names (api.RowId) whose elements are versions: what a block holds, as a function of names. -/
import Derived.Test.YtfepfpcilmaojaaQVx0
import Derived.Test.YtfepfpcilmaojaaMapG
import Derived.Maps.OwnSet
import Derived.Maps.RangeWalk
import Derived.Maps.Ext
import Derived.DeepKeys4
import Derived.KernelRfl
namespace Go.Proofs.Ytfepfpcilmaojaa.QV
open Go.RowKit Go.Maps Go.Proofs.YtfepfpcilmaojaaW.PrintWords
set_option linter.unusedVariables false
set_option linter.unusedSimpArgs false
set_option maxRecDepth 100000
abbrev tNm : Nat := 31
theorem laidOut : laidOutB Try.prog = true := by kernel_rfl
theorem rowNm : (tNm : TypeId) < Try.prog.types.size := of_decide_eq_true (by kernel_rfl)
theorem wideNm : (match Try.prog.underlying tNm with | some (.array _ _) | some (.struct _) => true | _ => false) = true := by rw [show Try.prog.underlying tNm = _ from Try.underlying31]
theorem lawNm : Keyed Try.prog tNm := Keyed.of_law (deep_law_laid laidOut (m := 2) (by omega) rowNm (by kernel_rfl) wideNm)
abbrev Nm := S31
def Nm.val (k : Nm) : Value := .agg #[.int .u64 k.f0, .int .u32 k.f1]
def Nok (k : Nm) : Prop := (Lit.int .u64 k.f0).wf = true ∧ (Lit.int .u32 k.f1).wf = true
theorem nm_keyType : Try.prog.keyType tNm = true := by kernel_rfl
theorem nm_cells : Try.prog.cellsOf tNm = 2 := by kernel_rfl
theorem nm_c0 : Try.prog.cellsOf 23 = 1 := by kernel_rfl
theorem nm_c1 : Try.prog.cellsOf 29 = 1 := by kernel_rfl
theorem nm_size : ∃ n, Try.prog.types.size = n + 2 := ⟨Try.prog.types.size - 2, by have := rowNm; unfold tNm at this; omega⟩
theorem keyOf_nm (k : Nm) (h : Nok k) : ∃ l, keyOf Try.prog tNm k.val = some l := by
  obtain ⟨n, hn⟩ := nm_size
  have hu : Try.prog.underlying tNm = _ := Try.underlying31
  have hf : (k.val).formed Try.prog tNm = true := by simp [Value.formed, Nm.val, hu, nm_cells]
  have hl : Try.prog.keyLits (Try.prog.types.size + 1) tNm k.val.cells.toList = some [.int .u64 k.f0, .int .u32 k.f1] := by
    rw [hn]
    simp [Program.keyLits, hu, Nm.val, Value.cells, nm_cells, nm_c0, nm_c1, Try.underlying23, Try.underlying29, h.1, h.2]
  exact ⟨_, by simp only [keyOf, hu, nm_keyType, hf, hl]; rfl⟩
theorem keyOf_nm_inv {v : Value} {l : Lit} (h : keyOf Try.prog tNm v = some l) : ∃ k : Nm, Nok k ∧ v = k.val := by
  obtain ⟨n, hn⟩ := nm_size
  have hu : Try.prog.underlying tNm = _ := Try.underlying31
  simp only [keyOf, hu, nm_keyType, Bool.true_and] at h
  split at h
  · rename_i hf
    obtain ⟨ls, hls, _⟩ := Option.map_eq_some_iff.1 h
    cases v with
    | agg cs =>
      simp [Value.formed, hu, nm_cells] at hf
      obtain ⟨cs⟩ := cs
      match cs, hf with
      | [a, b], _ =>
        rw [hn] at hls
        unfold Program.keyLits at hls
        rw [hu] at hls
        simp [Value.cells, nm_cells, nm_c0, nm_c1] at hls
        simp only [Option.bind_eq_some_iff] at hls
        obtain ⟨la, hla, hr⟩ := hls
        simp only [Function.comp, Option.map_eq_some_iff, Option.bind_eq_some_iff] at hr
        obtain ⟨_, ⟨_, ⟨lb, hlb, _⟩, _⟩, _⟩ := hr
        obtain ⟨x, hx, rfl⟩ := keyLits_int' Try.underlying23 hla
        obtain ⟨y, hy, rfl⟩ := keyLits_int' Try.underlying29 hlb
        obtain rfl : a = _ := by simpa using hx
        obtain rfl : b = _ := by simpa using hy
        simp [Program.keyLits, Try.underlying23] at hla
        simp [Program.keyLits, Try.underlying29] at hlb
        exact ⟨⟨x, y⟩, ⟨hla, hlb⟩, rfl⟩
    | _ => simp [Value.formed, hu] at hf
  · cases h
theorem Nm.ext' {a b : Nm} (h0 : a.f0 = b.f0) (h1 : a.f1 = b.f1) : a = b := by
  cases a; cases b; simp only at h0 h1; rw [h0, h1]
instance : DecidableEq Nm := fun a b => if h : a.f0 = b.f0 ∧ a.f1 = b.f1 then isTrue (Nm.ext' h.1 h.2) else isFalse (fun e => h (by rw [e]; exact ⟨rfl, rfl⟩))
theorem Nm.val_inj (a b : Nm) (h : a.val = b.val) : a = b := by
  simp only [Nm.val] at h
  injection h with h
  simp at h
  exact Nm.ext' h.1 h.2
def nmK : Mp.KeyTy Try.prog tNm Nm := ⟨Nm.val, Nok, lawNm, keyOf_nm, fun v l h => keyOf_nm_inv h, Nm.val_inj⟩
theorem nmK_val (k : Nm) : nmK.val k = .agg #[.int .u64 k.f0, .int .u32 k.f1] := rfl
abbrev Ver := S34
abbrev kVer : Kd Ver := k34
abbrev kS : Kd S36 := k36
abbrev tS : Nat := 36
abbrev tVer : Nat := 34
abbrev tMap : Nat := 52
/-- The value u is the version x, in world w. -/
def VerAt (w : World) (u : Value) (x : Ver) : Prop := ∃ A c, u = .agg #[.int .u64 x.f0.f0, .int .u32 x.f0.f1, .slice A x.f1.length c, .int .u64 x.f2] ∧ x.f1.length ≤ c ∧ kS.C w A x.f1.length x.f1
theorem VerAt.below {w w' : World} {u : Value} {x : Ver} (h : VerAt w u x) (hb : Below w.heap.size w w') : VerAt w' u x := let ⟨A, c, h1, h2, h3⟩ := h; ⟨A, c, h1, h2, Kd.C_below h3 hb⟩
/-- The elements that f has are the versions that F has. -/
def FIs (w : World) (f : Nm → Option Value) (F : Nm → Option Ver) : Prop := ∀ k, Nok k → (F k = none ∧ f k = none) ∨ ∃ u x, f k = some u ∧ F k = some x ∧ VerAt w u x
theorem FIs.below {w w' : World} {f : Nm → Option Value} {F : Nm → Option Ver} (h : FIs w f F) (hb : Below w.heap.size w w') : FIs w' f F := fun k hk => (h k hk).imp id (fun ⟨u, x, h1, h2, h3⟩ => ⟨u, x, h1, h2, h3.below hb⟩)
theorem FIs.some_ {w : World} {f : Nm → Option Value} {F : Nm → Option Ver} (h : FIs w f F) {k : Nm} (hk : Nok k) : (f k).isSome = (F k).isSome := by
  rcases h k hk with ⟨h1, h2⟩ | ⟨u, x, h1, h2, _⟩
  · rw [h1, h2]; rfl
  · rw [h1, h2]; rfl
theorem FIs.get {w : World} {f : Nm → Option Value} {F : Nm → Option Ver} (h : FIs w f F) {k : Nm} (hk : Nok k) {u : Value} (hu : f k = some u) : ∃ x, F k = some x ∧ VerAt w u x := by
  rcases h k hk with ⟨h1, h2⟩ | ⟨u', x, h1, h2, h3⟩
  · rw [h2] at hu; cases hu
  · rw [h1] at hu; cases hu; exact ⟨x, h2, h3⟩
def updV (F : Nm → Option Ver) (k : Nm) (o : Option Ver) : Nm → Option Ver := fun z => if z = k then o else F z
theorem FIs.upd_ {w : World} {f : Nm → Option Value} {F : Nm → Option Ver} (h : FIs w f F) (k : Nm) {u : Value} {x : Ver} (hx : VerAt w u x) : FIs w (Mp.upd f k (some u)) (updV F k (some x)) := fun z hz => by
  by_cases e : z = k
  · subst e; exact .inr ⟨u, x, by simp [Mp.upd], by simp [updV], hx⟩
  · have e1 : Mp.upd f k (some u) z = f z := by simp [Mp.upd, e]
    have e2 : updV F k (some x) z = F z := by simp [updV, e]
    rw [e1, e2]; exact h z hz
theorem FIs.del_ {w : World} {f : Nm → Option Value} {F : Nm → Option Ver} (h : FIs w f F) (k : Nm) : FIs w (Mp.upd f k none) (updV F k none) := fun z hz => by
  by_cases e : z = k
  · subst e; exact .inl ⟨by simp [updV], by simp [Mp.upd]⟩
  · have e1 : Mp.upd f k none z = f z := by simp [Mp.upd, e]
    have e2 : updV F k none z = F z := by simp [updV, e]
    rw [e1, e2]; exact h z hz
theorem FIs.congr {w : World} {f : Nm → Option Value} {F G : Nm → Option Ver} (h : FIs w f F) (e : ∀ k, Nok k → F k = G k) : FIs w f G := fun k hk => by rw [← e k hk]; exact h k hk
/-- Block b is a map of versions, by their names. -/
def MapV (w : World) (b n : Nat) (F : Nm → Option Ver) : Prop := ∃ f, Mp.MapIs nmK w b n f ∧ FIs w f F
theorem MapV.below {w w' : World} {b n : Nat} {F : Nm → Option Ver} (h : MapV w b n F) (hb : Below w.heap.size w w') : MapV w' b n F := let ⟨f, h1, h2⟩ := h; ⟨f, h1.at (hb.block b h1.lt), h2.below hb⟩
theorem MapV.congr {w : World} {b n : Nat} {F G : Nm → Option Ver} (h : MapV w b n F) (e : ∀ k, Nok k → F k = G k) : MapV w b n G := let ⟨f, h1, h2⟩ := h; ⟨f, h1, h2.congr e⟩
theorem zeroVer (w : World) : (zeroValue tVer).run Try.prog w = .ok (.agg #[.int .u64 0, .int .u32 0, .slice none 0 0, .int .u64 0]) w := by kernel_rfl
/-- A map turned, all else as it was. -/
theorem turned_below {w w1 w2 : World} {b : Nat} (h : Below w.heap.size w w1) (ht : w1.mapTurned w2 b) (hb : w.heap.size ≤ b) : Below w.heap.size w w2 := h.grown ht.grown h.size (fun k e => by cases e; exact hb)
/-- The first version of each name. -/
def firstOf (l : List Ver) (k : Nm) : Option Ver := l.find? (fun v => decide (v.f0 = k))
theorem firstOf_snoc (l : List Ver) (x : Ver) : firstOf (l ++ [x]) = if (firstOf l x.f0).isSome then firstOf l else updV (firstOf l) x.f0 (some x) := by
  funext k
  unfold firstOf updV
  rw [List.find?_append]
  split
  · rename_i h
    by_cases e : k = x.f0
    · subst e
      obtain ⟨v, hv⟩ := Option.isSome_iff_exists.1 h
      simp [hv]
    · have : List.find? (fun v => decide (v.f0 = k)) [x] = none := by simp [Ne.symm e]
      rw [this]; simp
  · rename_i h
    by_cases e : k = x.f0
    · subst e
      have h0 : List.find? (fun v => decide (v.f0 = x.f0)) l = none := by simpa using h
      rw [h0]; simp
    · have : List.find? (fun v => decide (v.f0 = k)) [x] = none := by simp [Ne.symm e]
      rw [this]; simp [e]
end Go.Proofs.Ytfepfpcilmaojaa.QV
