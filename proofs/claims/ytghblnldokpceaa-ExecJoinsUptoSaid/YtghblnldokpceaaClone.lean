/- slices.Clone of a row of values: a row of one's own; nil stays nil. -/
import Derived.Test.YtghblnldokpceaaQVx0
import Derived.Test.YtghblnldokpceaaProg
import Derived.WalkKit
import Derived.WalkSpells
import Derived.Lib.Hide
namespace Go.Proofs.Ytghblnldokpceaa.QV
open Go.RowKit Go.Proofs.YtghblnldokpceaaW.PrintWords
set_option linter.unusedVariables false
set_option linter.unusedSimpArgs false
abbrev kS : Kd S42 := k42
abbrev tS : Nat := 42
theorem infoS : (Try.prog.info? 42).map (fun i => (i.zero, i.size, i.bytes)) = some (some (.agg #[.int .i64 0, .bool false, .int .i64 0, .string ⟨#[]⟩]), 4, 40) := by kernel_rfl
theorem kS_KM {w W : World} {base : Nat} {ok : Nat → Prop} (x : S42) (cs : List Value) (h : kS.K w x cs) : kS.M W base ok x cs := by
  rw [k42_open h]; exact k42_mkM _ _ _ _
theorem R_empty' {α : Type} (d : Kd α) (e : Nat) (w : World) (base : Nat) (ok : Nat → Prop) (hb : base ≤ w.heap.size) (hok : ok w.heap.size) : d.R e (w.alloc (.cells #[] e)) base ok (.slice (some ⟨w.heap.size, 0, none⟩) 0 0) [] := by
  refine ⟨fun k hk => ?_, [], ?_, Reps.none _ _⟩
  · have : w.heap.size = k := by simpa [Value.ownBlock] using hk
    subst this
    exact hok
  · have h2 := World.ownsRow_lit (base := base) (e := e) (size := d.sz) w #[] 0 hb (by simp) (by simp)
    simpa using h2

set_option maxHeartbeats 1000000 in
theorem clone_any (A : Option Addr) (l : List S42) (c : Nat) (w : World) (hr : kS.C w A l.length l) (hc : l.length ≤ c) (hb : l.length * 40 ≤ 140737488355328) :
    Calls Try.prog 33 #[.slice A l.length c] w fun e w' => ∃ v, e = .returned v ∧ kS.R tS w' w.heap.size (fun _ => True) v l ∧ Below w.heap.size w w' := by
  have hmax := hr.2.1
  cases A with
  | none =>
    have hl : l = [] := by
      cases l with
      | nil => rfl
      | cons x l => obtain ⟨ad, e, _⟩ := hr.2.2 (by simp); cases e
    subst hl
    have hn := Lib.run_eql_slice_nil (P := Try.prog)
    go_enter Try.func33, Try.ntmps33
    go_wp2
    go_ret
    exact ⟨_, rfl, Kd.R_nil _ _ _ _ _, Below.refl _ _⟩
  | some ad =>
    have hn := Lib.run_eql_slice_nil (P := Try.prog)
    go_enter Try.func33, Try.ntmps33
    go_wp2_with (at_builtin; refine Kd.R_append_rows kS (w0 := w) w.heap.size rfl (.tmp 5) (.tmp 6) 31 42 _ 40 rfl Try.underlying31 infoS rfl (by decide) (by decide) (.slice (some ⟨w.heap.size, 0, none⟩) 0 0) [] l (some ad) l.length c (fun _ => True) (fun _ => False) rfl rfl (R_empty' kS _ _ _ _ (Nat.le_refl _) trivial) (Kd.C_below hr (below_alloc (Below.refl _ _) _)) (fun x cs h => kS_KM x cs h) (fun _ h => h.elim) (fun _ _ => trivial) (below_alloc (Below.refl _ _) _) (by simp) (by simp; omega) ?_; intro v1 w4 hv1 hB7 hg7 hat7; clear hg7 hat7)
    go_ret
    exact ⟨v1, rfl, by simpa using hv1, hB7⟩
end Go.Proofs.Ytghblnldokpceaa.QV
/- slices.Grow of nil, slices.Concat of two rows: a row of one's own. -/
namespace Go.Proofs.Ytghblnldokpceaa.QV
open Go.RowKit Go.Proofs.YtghblnldokpceaaW.PrintWords
set_option linter.unusedVariables false
set_option linter.unusedSimpArgs false

set_option maxHeartbeats 1000000 in
theorem grow_nil (n : Nat) (w : World) (hb : n * 40 ≤ 140737488355328) :
    Calls Try.prog 64 #[.slice none 0 0, .int .i64 n] w fun e w' => ∃ v, e = .returned v ∧ kS.R tS w' w.heap.size (fun _ => True) v [] ∧ Below w.heap.size w w' := by
  by_cases h0 : n = 0
  · subst h0
    go_enter Try.func64, Try.ntmps64
    go_wp2
    go_ret
    exact ⟨_, rfl, Kd.R_nil _ _ _ _ _, Below.refl _ _⟩
  · have hp : 0 < n := by omega
    go_enter Try.func64, Try.ntmps64
    go_wp2_with (at_builtin; refine Kd.R_append_zeros kS (w0 := w) w.heap.size rfl (.tmp 20) (.tmp 21) 31 3 42 _ 40 rfl Try.underlying31 Try.underlying3 infoS rfl (by decide) (by decide) (.slice none 0 0) [] z42 (n : Int) (fun _ => True) rfl rfl (k42_mkM _ _ _ z42) (fun _ _ => trivial) (Kd.R_nil _ _ _ _ _) (by omega) (Below.refl _ _) (Nat.le_refl _) (by simp; omega) ?_; intro v1 w1 hv1 hb1 hg1 hat1; obtain ⟨g1, cap1, rfl, hg1b, hg1l, cells1, hcells1⟩ := Kd.R_form hv1 (by simp; omega); clear hg1 hat1)
    go_ret
    exact ⟨_, rfl, by simpa using Kd.R_take hv1 (Nat.zero_le _), hb1⟩

set_option maxHeartbeats 2000000 in
/-- The two rows, one behind the other. -/
theorem concat2 (A : Option Addr) (a : List S42) (ca : Nat) (B : Option Addr) (b : List S42) (cb : Nat) (g : Nat) (w : World) (hg : w.heap[g]? = some (.cells #[.slice A a.length ca, .slice B b.length cb] 31 (0, 0)))
    (hA : kS.C w A a.length a) (hB : kS.C w B b.length b) (hb : (a.length + b.length) * 40 ≤ 140737488355328) :
    Calls Try.prog 35 #[.slice (some ⟨g, 0, none⟩) 2 2] w fun e w' => ∃ v, e = .returned v ∧ kS.R tS w' w.heap.size (fun _ => True) v (a ++ b) ∧ Below w.heap.size w w' := by
  have c0 : w.cell? ⟨g, 0, none⟩ = some (.slice A a.length ca) := blk_cell hg 0
  have c1 : w.cell? ⟨g, 1, none⟩ = some (.slice B b.length cb) := blk_cell hg 1
  have hab : (a.length : Int) + (b.length : Int) = ((a.length + b.length : Nat) : Int) := by omega
  go_enter Try.func35, Try.ntmps35
  go_wp2_with fail
  have HAB := Lib.hid hab
  clear hab
  go_loop [3, 11] (fun s i => ∃ k : Nat, k ≤ 2 ∧ i = .int .i64 k ∧ s = .int .i64 (if k = 0 then 0 else if k = 1 then (a.length : Int) else ((a.length + b.length : Nat) : Int))) (fun _ i => 2 - (intOf i).toNat)
  case atStart => exact ⟨0, by omega, rfl, rfl⟩
  case round =>
    obtain ⟨k, hk, rfl, rfl⟩ := hrel
    rcases (by omega : k = 0 ∨ k = 1 ∨ k = 2) with rfl | rfl | rfl
    · go_wp2
      go_round
      case rel => exact ⟨1, by omega, by go_num, by simp⟩
      case measure => simp [intOf]
    · go_wp2
      go_round
      case rel => exact ⟨2, by omega, by go_num, by simp⟩
      case measure => simp [intOf]
    · simp only [show ¬ (2 = 0) from by omega, show ¬ (2 = 1) from by omega, if_false]
      go_wp2_with fail
      refine (grow_nil (a.length + b.length) w hb).mono ?_
      rintro e w1 ⟨v0, rfl, hv0, hb0⟩
      have c0 : w1.cell? ⟨g, 0, none⟩ = some (.slice A a.length ca) := blk_cell (blk_below hg hb0) 0
      have c1 : w1.cell? ⟨g, 1, none⟩ = some (.slice B b.length cb) := blk_cell (blk_below hg hb0) 1
      go_wp2_with fail
      go_loopw [6, 27] (fun v i wr => ∃ k : Nat, k ≤ 2 ∧ i = .int .i64 k ∧ kS.R tS wr w.heap.size (fun _ => True) v (if k = 0 then [] else if k = 1 then a else a ++ b) ∧ Below w.heap.size w wr) (fun _ i _ => 2 - (intOf i).toNat)
      case atStart => exact ⟨0, by omega, rfl, by simpa using hv0, hb0⟩
      case round =>
        obtain ⟨k, hk, rfl, hv, hB2⟩ := hrel
        have d0 : wr.cell? ⟨g, 0, none⟩ = some (.slice A a.length ca) := blk_cell (blk_below hg hB2) 0
        have d1 : wr.cell? ⟨g, 1, none⟩ = some (.slice B b.length cb) := blk_cell (blk_below hg hB2) 1
        rcases (by omega : k = 0 ∨ k = 1 ∨ k = 2) with rfl | rfl | rfl
        · simp only [if_true] at hv
          go_wp2_with (at_builtin; refine Kd.R_append_rows kS (w0 := w) w.heap.size rfl (.tmp 31) (.tmp 32) 31 42 _ 40 rfl Try.underlying31 infoS rfl (by decide) (by decide) u6 [] a A a.length ca (fun _ => True) (fun _ => False) rfl rfl hv (Kd.C_below hA hB2) (fun x cs h => kS_KM x cs h) (fun _ h => h.elim) (fun _ _ => trivial) hB2 hB2.size (by first | omega | (simp; omega)) ?_; intro v1 w4 hv1 hB7 hg7 hat7; clear hg7 hat7)
          go_roundw
          case rel => exact ⟨1, by omega, by go_num, by simpa using hv1, hB7⟩
          case measure => simp [intOf]
        · simp only [show ¬ (1 = 0) from by omega, if_false, if_true] at hv
          go_wp2_with (at_builtin; refine Kd.R_append_rows kS (w0 := w) w.heap.size rfl (.tmp 31) (.tmp 32) 31 42 _ 40 rfl Try.underlying31 infoS rfl (by decide) (by decide) u6 a b B b.length cb (fun _ => True) (fun _ => False) rfl rfl hv (Kd.C_below hB hB2) (fun x cs h => kS_KM x cs h) (fun _ h => h.elim) (fun _ _ => trivial) hB2 hB2.size (by first | omega | (simp; omega)) ?_; intro v1 w4 hv1 hB7 hg7 hat7; clear hg7 hat7)
          go_roundw
          case rel => exact ⟨2, by omega, by go_num, by simpa using hv1, hB7⟩
          case measure => simp [intOf]
        · simp only [show ¬ (2 = 0) from by omega, show ¬ (2 = 1) from by omega, if_false] at hv
          go_wp2
          go_ret
          exact ⟨_, rfl, hv, hB2⟩
end Go.Proofs.Ytghblnldokpceaa.QV
