/- The parts Missing, Open, ROpen, QVx3, QVx1, QVx2, GR, QVx4, QVx6 of this proof, one behind the other. -/
import Derived.Test.YtfepfpcilmaojaaZ1
import Derived.Test.YtfepfpcilmaojaaRows
import Derived.ProofKit
import Derived.OpenShut
import Derived.SizedLaws
/- recover.Missing: a map by segments; which segments nothing is held of. -/
namespace Go.Proofs.Ytfepfpcilmaojaa.QV
open Go.RowKit Go.Maps Go.Proofs.YtfepfpcilmaojaaW.PrintWords Go.Proofs.Ytfepfpcilmaojaa.SeqW Go.Proofs.Ytfepfpcilmaojaa.Mp
set_option linter.unusedVariables false
set_option linter.unusedSimpArgs false
set_option maxRecDepth 100000
abbrev tSg : Nat := 50
abbrev tHeld : Nat := 66
abbrev tMapS : Nat := 63
theorem rowSg : (tSg : TypeId) < Try.prog.types.size := of_decide_eq_true (by kernel_rfl)
theorem wideSg : (match Try.prog.underlying tSg with | some (.array _ _) | some (.struct _) => true | _ => false) = true := by rw [show Try.prog.underlying tSg = _ from Try.underlying50]
theorem lawSg : Keyed Try.prog tSg := Keyed.of_law (deep_law_laid laidOut (m := 2) (by omega) rowSg (by kernel_rfl) wideSg)
abbrev Sg := S50
def Sg.val (k : Sg) : Value := .agg #[.int .i64 k.f0, .int .i64 k.f1]
def Sok (k : Sg) : Prop := (Lit.int .i64 k.f0).wf = true ∧ (Lit.int .i64 k.f1).wf = true
theorem sg_keyType : Try.prog.keyType tSg = true := by kernel_rfl
theorem sg_cells : Try.prog.cellsOf tSg = 2 := by kernel_rfl
theorem sg_c0 : Try.prog.cellsOf 3 = 1 := by kernel_rfl
theorem sg_size : ∃ n, Try.prog.types.size = n + 2 := ⟨Try.prog.types.size - 2, by have := rowSg; unfold tSg at this; omega⟩
theorem keyOf_sg (k : Sg) (h : Sok k) : ∃ l, keyOf Try.prog tSg k.val = some l := by
  obtain ⟨n, hn⟩ := sg_size
  have hu : Try.prog.underlying tSg = _ := Try.underlying50
  have hf : (k.val).formed Try.prog tSg = true := by simp [Value.formed, Sg.val, hu, sg_cells]
  have hl : Try.prog.keyLits (Try.prog.types.size + 1) tSg k.val.cells.toList = some [.int .i64 k.f0, .int .i64 k.f1] := by
    rw [hn]
    simp [Program.keyLits, hu, Sg.val, Value.cells, sg_cells, sg_c0, Try.underlying3, h.1, h.2]
  exact ⟨_, by simp only [keyOf, hu, sg_keyType, hf, hl]; rfl⟩
theorem keyOf_sg_inv {v : Value} {l : Lit} (h : keyOf Try.prog tSg v = some l) : ∃ k : Sg, Sok k ∧ v = k.val := by
  obtain ⟨n, hn⟩ := sg_size
  have hu : Try.prog.underlying tSg = _ := Try.underlying50
  simp only [keyOf, hu, sg_keyType, Bool.true_and] at h
  split at h
  · rename_i hf
    obtain ⟨ls, hls, _⟩ := Option.map_eq_some_iff.1 h
    cases v with
    | agg cs =>
      simp [Value.formed, hu, sg_cells] at hf
      obtain ⟨cs⟩ := cs
      match cs, hf with
      | [a, b], _ =>
        rw [hn] at hls
        unfold Program.keyLits at hls
        rw [hu] at hls
        simp [Value.cells, sg_cells, sg_c0] at hls
        simp only [Option.bind_eq_some_iff] at hls
        obtain ⟨la, hla, hr⟩ := hls
        simp only [Function.comp, Option.map_eq_some_iff, Option.bind_eq_some_iff] at hr
        obtain ⟨_, ⟨_, ⟨lb, hlb, _⟩, _⟩, _⟩ := hr
        obtain ⟨x, hx, rfl⟩ := keyLits_int' Try.underlying3 hla
        obtain ⟨y, hy, rfl⟩ := keyLits_int' Try.underlying3 hlb
        obtain rfl : a = _ := by simpa using hx
        obtain rfl : b = _ := by simpa using hy
        simp [Program.keyLits, Try.underlying3] at hla
        simp [Program.keyLits, Try.underlying3] at hlb
        exact ⟨⟨x, y⟩, ⟨hla, hlb⟩, rfl⟩
    | _ => simp [Value.formed, hu] at hf
  · cases h
theorem Sg.ext' {a b : Sg} (h0 : a.f0 = b.f0) (h1 : a.f1 = b.f1) : a = b := by
  cases a; cases b; simp only at h0 h1; rw [h0, h1]
instance : DecidableEq Sg := fun a b => if h : a.f0 = b.f0 ∧ a.f1 = b.f1 then isTrue (Sg.ext' h.1 h.2) else isFalse (fun e => h (by rw [e]; exact ⟨rfl, rfl⟩))
theorem Sg.val_inj (a b : Sg) (h : a.val = b.val) : a = b := by
  simp only [Sg.val] at h
  injection h with h
  simp at h
  exact Sg.ext' h.1 h.2
def sgK : Mp.KeyTy Try.prog tSg Sg := ⟨Sg.val, Sok, lawSg, keyOf_sg, fun v l h => keyOf_sg_inv h, Sg.val_inj⟩
abbrev Hd := S66
abbrev kHd : Kd Hd := k66
abbrev kSg : Kd Sg := k50
theorem zeroHeld (w : World) : (zeroValue tHeld).run Try.prog w = .ok (.agg #[.int .i64 0, .int .i64 0, .slice none 0 0]) w := by kernel_rfl
/-- Is something held of a segment? -/
def heldB (l : List Hd) (k : Sg) : Bool := l.any (fun h => decide (h.f0 = k))
/-- The map's keys are the segments that something is held of. -/
def hdV (y : Hd) (A : Option Addr) (c : Nat) : Value := .agg #[.int .i64 y.f0.f0, .int .i64 y.f0.f1, .slice A y.f1.length c]
def HIs (f : Sg → Option Value) (l : List Hd) : Prop := ∀ k, Sok k → (f k).isSome = heldB l k ∧ ∀ u, f k = some u → ∃ y A c, u = hdV y A c
theorem HIs.upd_ {f : Sg → Option Value} {l : List Hd} (h : HIs f l) (x : Hd) (A : Option Addr) (c : Nat) : HIs (upd f x.f0 (some (hdV x A c))) (l ++ [x]) := fun k hk => by
  unfold upd
  by_cases e : k = x.f0
  · subst e; exact ⟨by simp [heldB], fun u hu => by simp at hu; exact ⟨x, A, c, hu.symm⟩⟩
  · have := h k hk
    rw [if_neg e]
    refine ⟨?_, this.2⟩
    rw [this.1]
    simp [heldB, Ne.symm e]
theorem HIs.same {f : Sg → Option Value} {l : List Hd} (h : HIs f l) (x : Hd) (hx : heldB l x.f0 = true) : HIs f (l ++ [x]) := fun k hk => by
  have := h k hk
  refine ⟨?_, this.2⟩
  rw [this.1]
  unfold heldB at hx ⊢
  by_cases e : k = x.f0
  · subst e; simp only [List.any_append, hx]; rfl
  · simp [Ne.symm e]
theorem held_at {w : World} {A : Option Addr} {l : List Hd} (h : kHd.C w A l.length l) (i : Nat) (hi : i < l.length) :
    ∃ ad A2 c2, A = some ad ∧ w.cell? (ad.add (i * 3)) = some (.int .i64 (l.getD i z66).f0.f0) ∧ w.cell? ⟨(ad.add (i * 3)).block, (ad.add (i * 3)).off + 1, none⟩ = some (.int .i64 (l.getD i z66).f0.f1) ∧ w.cell? ⟨(ad.add (i * 3)).block, (ad.add (i * 3)).off + 2, none⟩ = some (.slice A2 (l.getD i z66).f1.length c2) := by
  obtain ⟨ad, A2, c2, e, h0, h1, h2, _⟩ := at_T66 h (i : Int) (by omega) (by omega)
  rw [Int.toNat_natCast] at h0 h1 h2
  exact ⟨ad, A2, c2, e, h0, h1, h2⟩
theorem seg_at {w : World} {A : Option Addr} {l : List Sg} (h : kSg.C w A l.length l) (i : Nat) (hi : i < l.length) :
    ∃ ad, A = some ad ∧ w.cell? (ad.add (i * 2)) = some (.int .i64 (l.getD i z50).f0) ∧ w.cell? ⟨(ad.add (i * 2)).block, (ad.add (i * 2)).off + 1, none⟩ = some (.int .i64 (l.getD i z50).f1) := by
  obtain ⟨ad, e, h0, h1⟩ := at_T50 h (i : Int) (by omega) (by omega)
  rw [Int.toNat_natCast] at h0 h1
  exact ⟨ad, e, h0, h1⟩
theorem at_any (x : Hd) (A : Option Addr) (c : Nat) (w : World) :
    Calls Try.prog 36 #[.agg #[.int .i64 x.f0.f0, .int .i64 x.f0.f1, .slice A x.f1.length c]] w fun e w' => e = .returned (.agg #[.int .i64 x.f0.f0, .int .i64 x.f0.f1]) ∧ Below w.heap.size w w' := by
  go_enter Try.func36, Try.ntmps36
  go_wp2
  go_returns
  exact ⟨rfl, ((Below.refl _ _).alloc (Nat.le_refl _) _).alloc (by simp) _⟩

set_option maxHeartbeats 4000000 in
theorem keyedS_any (A : Option Addr) (l : List Hd) (c : Nat) (w : World) (hr : kHd.C w A l.length l) (hc : l.length ≤ c) (hok : ∀ x ∈ l, Sok x.f0) (hb : l.length < 9223372036854775807) :
    Calls Try.prog 35 #[.slice A l.length c, .func (.func 36) #[] #[]] w fun e w' => e = .returned (.map (some w.heap.size)) ∧ (∃ f, MapIs sgK w' w.heap.size l.length f ∧ HIs f l) ∧ Below w.heap.size w w' := by
  have hmm := @run_makeMap Try.prog
  go_enter Try.func35, Try.ntmps35
  go_wp2
  go_loopw [13] (fun i wr => ∃ k : Nat, k ≤ l.length ∧ i = .int .i64 k ∧ (∃ f, MapIs sgK wr w.heap.size k f ∧ HIs f (l.take k)) ∧ Below w.heap.size w wr)
    (fun i _ => l.length - (intOf i).toNat)
  case atStart => exact ⟨0, Nat.zero_le _, rfl, ⟨_, MapIs.made w, fun k _ => ⟨rfl, fun u hu => by cases hu⟩⟩, (Below.refl _ _).alloc (Nat.le_refl _) _⟩
  case round =>
    obtain ⟨k, hk, rfl, hM, hB⟩ := hrel
    by_cases hlt : k < l.length
    · obtain ⟨ad, Ax, cx, e, hc0, hc1, hc2⟩ := held_at hr k hlt
      replace hc0 := pw_cell_below hB hc0
      replace hc1 := pw_cell_below hB hc1
      replace hc2 := pw_cell_below hB hc2
      subst e
      have hx0 := hok _ (getD_mem z66 hlt)
      have hts := take_snoc' z66 l k hlt
      generalize l.getD k z66 = x at *
      obtain ⟨f, hMf, hF⟩ := hM
      have wk : wrap64 ((k : Int) + 1) = k + 1 := by unfold wrap64; omega
      cases h1 : f x.f0 with
      | none =>
        go_wp2_with (first
          | (go_at_call 36; refine (at_any x Ax cx _).mono ?_; rintro e w5 ⟨rfl, hB5⟩; have hBw5 := btr' (below_alloc (Below.refl wr.heap.size wr) (.cells #[.int .i64 x.f0.f0, .int .i64 x.f0.f1, .slice Ax x.f1.length cx] tHeld)) hB5; have hMf5 := hMf.below hBw5)
          | (at_lookup; refine wpList_look_map _ rfl _ _ tMapS rfl tHeld Try.underlying63 rfl hMf5 (zeroHeld _) x.f0 hx0 rfl ?_; simp only [h1, Option.getD_none, Option.isSome_none])
          | go_in)
        refine wp_at (S := fun W => Below wr.heap.size wr W ∧ W.heap[wr.heap.size]? = some (.cells #[.int .i64 x.f0.f0, .int .i64 x.f0.f1, .slice Ax x.f1.length cx] tHeld (0, 0))) ⟨below_alloc hBw5 _, blk_below (blk_new wr _) (below_alloc hB5 _)⟩ ?_
        rintro W0 ⟨hB0, hb7⟩
        have S0 : ∀ V, Below W0.heap.size W0 V → V.cell? ⟨wr.heap.size, 0, none⟩ = some (.int .i64 x.f0.f0) ∧ V.cell? ⟨wr.heap.size, 1, none⟩ = some (.int .i64 x.f0.f1) ∧ V.cell? ⟨wr.heap.size, 2, none⟩ = some (.slice Ax x.f1.length cx) :=
          fun V hV => ⟨blk_cell (blk_below hb7 hV) 0, blk_cell (blk_below hb7 hV) 1, blk_cell (blk_below hb7 hV) 2⟩
        refine (wpIn_wide (n := 0)).1 ?_
        refine wpIn_region_R (l := 0) 5 (S := fun V => V.cell? ⟨wr.heap.size, 0, none⟩ = some (.int .i64 x.f0.f0) ∧ V.cell? ⟨wr.heap.size, 1, none⟩ = some (.int .i64 x.f0.f1) ∧ V.cell? ⟨wr.heap.size, 2, none⟩ = some (.slice Ax x.f1.length cx)) (by kernel_rfl) (S0 _ (below_drew (Below.refl _ _))) (fun hS0 => ?_)
        refine wpAnyR_take (i := 0) (oi := ⟨some 27, _, _, _, _, _⟩) (v := ?_) (by kernel_rfl) (by kernel_rfl) rfl (by kernel_rfl) (by kernel_rfl) (by kernel_rfl) (fun _ _ _ h => h) (Or.inl ⟨by rfl, ?_⟩) (by assumption) ?_
        rotate_left
        · intro w hSw; (try dsimp only at hSw); (try go_split_ands); go_simp; (try (with_reducible rfl))
        (try simp only [Act.put, List.setIfInBounds_toArray, List.set_cons_zero, List.set_cons_succ])
        refine wpAnyR_take (i := 1) (oi := ⟨some 28, _, _, _, _, _⟩) (v := ?_) (by kernel_rfl) (by kernel_rfl) rfl (by kernel_rfl) (by kernel_rfl) (by kernel_rfl) (fun _ _ _ h => h) (Or.inl ⟨by rfl, ?_⟩) (by assumption) ?_
        rotate_left
        · intro w hSw; (try dsimp only at hSw); (try go_split_ands); go_simp; (try (with_reducible rfl))
        (try simp only [Act.put, List.setIfInBounds_toArray, List.set_cons_zero, List.set_cons_succ])
        refine wpAnyR_take (i := 2) (oi := ⟨some 29, _, _, _, _, _⟩) (v := ?_) (by kernel_rfl) (by kernel_rfl) rfl (by kernel_rfl) (by kernel_rfl) (by kernel_rfl) (fun _ _ _ h => h) (Or.inl ⟨by rfl, ?_⟩) (by assumption) ?_
        rotate_left
        · intro w hSw; (try dsimp only at hSw); (try go_split_ands); go_simp; (try (with_reducible rfl))
        (try simp only [Act.put, List.setIfInBounds_toArray, List.set_cons_zero, List.set_cons_succ])
        refine wpAnyR_take (i := 4) (oi := ⟨some 31, _, _, _, _, _⟩) (v := ?_) (by kernel_rfl) (by kernel_rfl) rfl (by kernel_rfl) (by kernel_rfl) (by kernel_rfl) (fun _ _ _ h => h) (Or.inl ⟨by rfl, ?_⟩) (by assumption) ?_
        rotate_left
        · intro w hSw; (try dsimp only at hSw); (try go_split_ands); go_simp; (try (with_reducible rfl))
        (try simp only [Act.put, List.setIfInBounds_toArray, List.set_cons_zero, List.set_cons_succ])
        refine wpAnyR_one (i := 3) (o := ⟨some 30, _, _, _, _, _⟩) (by kernel_rfl) (by kernel_rfl) rfl (fun K hK => ?_)
        go_simp
        refine (at_any x Ax cx _).mono ?_
        rintro e W1 ⟨rfl, hB1⟩
        have hB01 := btr' (below_drew (Below.refl _ W0)) hB1
        (try dsimp only)
        refine hK.out _ _ (.inr (S0 _ hB01)) ?_
        clear hK K
        (try simp only [Act.put, List.setIfInBounds_toArray, List.set_cons_zero, List.set_cons_succ])
        refine wpAnyR_one (i := 5) (o := ⟨none, _, _, _, _, _⟩) (by kernel_rfl) (by kernel_rfl) rfl (fun K hK => ?_)
        obtain ⟨W2, hr2, hM2, hT2⟩ := ((hMf.below hB0).below hB01).put_ (tm := tMapS) (e := tHeld) Try.underlying63 (by unfold maxLen; omega) hx0 (.agg #[.int .i64 x.f0.f0, .int .i64 x.f0.f1, .slice Ax x.f1.length cx])
        have hr2' : (Instr.mapUpdate tMapS (.map (some w.heap.size)) (.agg #[.int .i64 x.f0.f0, .int .i64 x.f0.f1]) (.agg #[.int .i64 x.f0.f0, .int .i64 x.f0.f1, .slice Ax x.f1.length cx])).run Try.prog W1 = .ok () W2 := hr2
        go_simp
        refine hK.out _ _ (.inl rfl) ?_
        clear hK K
        (try simp only [Act.put, List.setIfInBounds_toArray, List.set_cons_zero, List.set_cons_succ])
        refine wpAnyR_done (by kernel_rfl) ?_ _
        have hB02 := (hB.trans (hB0.mono hB.size)).trans (hB01.mono (Nat.le_trans hB.size hB0.size))
        have hbw := hMf.lt
        go_wp2
        go_roundw
        case rel =>
          refine ⟨k + 1, by omega, by go_num, ⟨_, hM2, ?_⟩, hB02.grown hT2.grown hB02.size (fun k e => by cases e; exact Nat.le_refl _)⟩
          rw [← hts]
          exact hF.upd_ x Ax cx
        case measure => simp [intOf]; omega
      | some u =>
        obtain ⟨y, Ay, cy, rfl⟩ := (hF x.f0 hx0).2 u h1
        have hx1 : heldB (l.take k) x.f0 = true := by rw [← (hF x.f0 hx0).1, h1]; rfl
        unfold hdV at h1
        go_wp2_with (first
          | (go_at_call 36; refine (at_any x Ax cx _).mono ?_; rintro e w5 ⟨rfl, hB5⟩; have hBw5 := btr' (below_alloc (Below.refl wr.heap.size wr) (.cells #[.int .i64 x.f0.f0, .int .i64 x.f0.f1, .slice Ax x.f1.length cx] tHeld)) hB5; have hMf5 := hMf.below hBw5)
          | (at_lookup; refine wpList_look_map _ rfl _ _ tMapS rfl tHeld Try.underlying63 rfl hMf5 (zeroHeld _) x.f0 hx0 rfl ?_; simp only [h1, Option.getD_some, Option.isSome_some])
          | go_in)
        go_roundw
        case rel =>
          refine ⟨k + 1, by omega, by go_num, ?_, hB.trans ((below_alloc hBw5 _).mono hB.size)⟩
          rw [← hts]
          exact ⟨f, (hMf5.mono (Nat.le_succ _)).below (below_alloc (Below.refl _ _) _), hF.same x hx1⟩
        case measure => simp [intOf]; omega
    · obtain rfl : k = l.length := by omega
      rw [List.take_length] at hM
      go_wp2
      go_ret
      obtain ⟨f, h1, h2⟩ := hM
      exact ⟨rfl, ⟨f, h1, h2⟩, hB⟩
theorem infoSg : (Try.prog.info? tSg).map (fun i => (i.zero, i.size, i.bytes)) = some (some (.agg #[.int .i64 0, .int .i64 0]), 2, 16) := by kernel_rfl
theorem slice_alloc2 (w : World) (o o' : Obj) (n c : Nat) : Value.slice (some ⟨w.heap.size + 1 + 1, 0, none⟩) n c = Value.slice (some ⟨((w.alloc o).alloc o').heap.size, 0, none⟩) n c := by rw [World.size_alloc, World.size_alloc]
set_option maxHeartbeats 4000000 in
theorem missing_any (A0 : Option Addr) (c0 : Nat) (l : List Sg) (A1 : Option Addr) (c1 : Nat) (m : List Hd) (w : World) (hr0 : kSg.C w A0 l.length l) (hc0 : l.length ≤ c0) (hr1 : kHd.C w A1 m.length m) (hc1 : m.length ≤ c1)
    (hok0 : ∀ x ∈ l, Sok x) (hok1 : ∀ x ∈ m, Sok x.f0) (hb0 : l.length * 16 ≤ 140737488355328) (hb1 : m.length < 9223372036854775807) :
    Calls Try.prog 23 #[.slice A0 l.length c0, .slice A1 m.length c1] w fun e w' => ∃ v, e = .returned v ∧ kSg.R tSg w' w.heap.size (fun _ => True) v (l.filter (fun k => !heldB m k)) ∧ Below w.heap.size w w' := by
  go_enter Try.func23, Try.ntmps23
  go_wp2_with (first
    | (go_at_call 35; refine (keyedS_any A1 m c1 w hr1 hc1 hok1 hb1).mono ?_; rintro e w1 ⟨rfl, ⟨f, hM1, hF1⟩, hB1⟩)
    | go_in)
  have hs1 : w.heap.size < w1.heap.size := hM1.lt
  go_loopw [6, 15] (fun v i wr => ∃ k : Nat, k ≤ l.length ∧ i = .int .i64 k ∧ kSg.R tSg wr w1.heap.size (fun _ => True) v ((l.take k).filter (fun k => !heldB m k)) ∧ Below w1.heap.size w1 wr)
    (fun _ i _ => l.length - (intOf i).toNat)
  case atStart => exact ⟨0, Nat.zero_le _, rfl, Kd.R_nil _ _ _ _ _, Below.refl _ _⟩
  case round =>
    obtain ⟨k, hk, rfl, hv, hB⟩ := hrel
    have hBw := btr' hB1 hB
    by_cases hlt : k < l.length
    · obtain ⟨ad, e, q0, q1⟩ := seg_at hr0 k hlt
      replace q0 := pw_cell_below hBw q0
      replace q1 := pw_cell_below hBw q1
      subst e
      have hx0 := hok0 _ (getD_mem z50 hlt)
      have hts := take_snoc' z50 l k hlt
      generalize l.getD k z50 = x at *
      have hMr := hM1.below hB
      obtain ⟨hh1, hh2⟩ := hF1 x hx0
      cases h1 : f x with
      | none =>
        have hn : heldB m x = false := by rw [← hh1, h1]; rfl
        have hfl : (l.take (k + 1)).filter (fun k => !heldB m k) = (l.take k).filter (fun k => !heldB m k) ++ [x] := by rw [← hts, List.filter_append]; simp [hn]
        have hbd : (((l.take k).filter (fun k => !heldB m k)).length + 1) * 16 ≤ 140737488355328 := by
          have h2 : ((l.take k).filter (fun k => !heldB m k)).length ≤ (l.take k).length := List.length_filter_le _ _
          rw [List.length_take] at h2
          have h3 : ((l.take k).filter (fun k => !heldB m k)).length + 1 ≤ l.length := by omega
          exact Nat.le_trans (Nat.mul_le_mul_right _ h3) hb0
        have hBa : Below w1.heap.size w1 ((wr.alloc (.cells #[.int .i64 x.f0, .int .i64 x.f1] tSg)).alloc (.cells #[.int .i64 0, .int .i64 0, .slice none 0 0] tHeld)) := below_alloc (below_alloc hB _) _
        go_wp2_with (first
          | (at_lookup; refine wpList_look_map _ rfl _ _ tMapS rfl tHeld Try.underlying63 rfl (hMr.below (by repeat (first | exact Below.refl _ _ | apply below_alloc))) (zeroHeld _) x hx0 rfl ?_; simp only [h1, Option.getD_none, Option.isSome_none])
          | (at_builtin; refine Kd.R_append kSg (w0 := w1) w1.heap.size rfl (.tmp 27) (.tmp 29) 46 tSg _ 16 rfl Try.underlying46 infoSg rfl (by decide) (by decide) u6 ((l.take k).filter (fun k => !heldB m k)) x [.int .i64 x.f0, .int .i64 x.f1] (fun _ => True) (fun _ => False) rfl (slice_alloc2 _ _ _ _ _) (k50_mkM _ _ _ _) (fun _ h => h.elim) (fun _ _ => trivial) (Kd.R_alloc (Kd.R_alloc hv _) _) hBa hBa.size hbd ?_; intro v1 w5 hv1 hB5 hg5 hat5; clear hg5 hat5)
          | go_in)
        go_roundw
        case rel => exact ⟨k + 1, by omega, by go_num, by rw [hfl]; exact hv1, hB5⟩
        case measure => simp [intOf]; omega
      | some u =>
        obtain ⟨y, Ay, cy, rfl⟩ := hh2 u h1
        have hn : heldB m x = true := by rw [← hh1, h1]; rfl
        have hfl : (l.take (k + 1)).filter (fun k => !heldB m k) = (l.take k).filter (fun k => !heldB m k) := by rw [← hts, List.filter_append]; simp [hn]
        unfold hdV at h1
        go_wp2_with (first
          | (at_lookup; refine wpList_look_map _ rfl _ _ tMapS rfl tHeld Try.underlying63 rfl (hMr.below (by repeat (first | exact Below.refl _ _ | apply below_alloc))) (zeroHeld _) x hx0 rfl ?_; simp only [h1, Option.getD_some, Option.isSome_some])
          | go_in)
        go_roundw
        case rel => exact ⟨k + 1, by omega, by go_num, by rw [hfl]; exact Kd.R_alloc (Kd.R_alloc hv _) _, below_alloc (below_alloc hB _) _⟩
        case measure => simp [intOf]; omega
    · obtain rfl : k = l.length := by omega
      rw [List.take_length] at hv
      go_wp2
      go_ret
      exact ⟨_, rfl, Kd.R_lower hv (by omega), hBw⟩
end Go.Proofs.Ytfepfpcilmaojaa.QV
/- What a map of versions told is, as a list: by sorted names; and that there is but one such list. -/
namespace Go.Proofs.Ytfepfpcilmaojaa.QV
open Go.RowKit Go.Proofs.YtfepfpcilmaojaaW.PrintWords Go.Proofs.Ytfepfpcilmaojaa.Mp
set_option linter.unusedVariables false
set_option linter.unusedSimpArgs false
def insN (k : Nm) : List Nm → List Nm
  | [] => [k]
  | a :: l => if cmpNm k a < 0 then k :: a :: l else if k = a then a :: l else a :: insN k l
/-- Names, each once, rising. -/
def nmsL (l : List Nm) : List Nm := l.foldr insN []
theorem insN_mem (k x : Nm) (l : List Nm) : x ∈ insN k l ↔ x = k ∨ x ∈ l := by
  induction l with
  | nil => simp [insN]
  | cons a l ih =>
    unfold insN
    split
    · simp
    · split
      · rename_i h; subst h; simp
      · simp only [List.mem_cons, ih]
        constructor
        · rintro (h | h | h)
          · exact .inr (.inl h)
          · exact .inl h
          · exact .inr (.inr h)
        · rintro (h | h | h)
          · exact .inr (.inl h)
          · exact .inl h
          · exact .inr (.inr h)
theorem insN_len (k : Nm) (l : List Nm) : (insN k l).length ≤ l.length + 1 := by
  induction l with
  | nil => simp [insN]
  | cons a l ih =>
    unfold insN
    split
    · simp
    · split
      · simp
      · simp only [List.length_cons]; omega
theorem insN_sorted (k : Nm) (l : List Nm) (h : l.Pairwise (fun a b => cmpNm a b < 0)) : (insN k l).Pairwise (fun a b => cmpNm a b < 0) := by
  induction l with
  | nil => simp [insN]
  | cons a l ih =>
    obtain ⟨h1, h2⟩ := List.pairwise_cons.1 h
    unfold insN
    split
    · rename_i hk
      refine List.pairwise_cons.2 ⟨fun b hb => ?_, h⟩
      rcases List.mem_cons.1 hb with rfl | hb
      · exact hk
      · have := h1 b hb
        rw [cmpNm_neg] at *
        omega
    · split
      · exact h
      · rename_i hk hne
        refine List.pairwise_cons.2 ⟨fun b hb => ?_, ih h2⟩
        rcases (insN_mem k b l).1 hb with rfl | hb
        · have hne' : ¬ (b.f0 = a.f0 ∧ b.f1 = a.f1) := fun h => hne (Nm.ext' h.1 h.2)
          rw [cmpNm_neg] at *
          omega
        · exact h1 b hb
theorem nmsL_mem (x : Nm) (l : List Nm) : x ∈ nmsL l ↔ x ∈ l := by
  induction l with
  | nil => simp [nmsL]
  | cons a l ih =>
    show x ∈ insN a (nmsL l) ↔ _
    rw [insN_mem, ih, List.mem_cons]
theorem nmsL_len (l : List Nm) : (nmsL l).length ≤ l.length := by
  induction l with
  | nil => simp [nmsL]
  | cons a l ih =>
    show (insN a (nmsL l)).length ≤ _
    have := insN_len a (nmsL l)
    simp only [List.length_cons]; omega
theorem nmsL_sorted (l : List Nm) : (nmsL l).Pairwise (fun a b => cmpNm a b < 0) := by
  induction l with
  | nil => simp [nmsL]
  | cons a l ih => exact insN_sorted a _ ih
/-- The map told. -/
def toldL (F : Nm → Option Ver) (ks : List Nm) : List Ver := (nmsL ks).filterMap F
theorem toldL_is (F : Nm → Option Ver) (ks : List Nm) (hFk : ∀ k x, F k = some x → x.f0 = k) (hok : ∀ k ∈ ks, Nok k) (hks : ∀ k, (F k).isSome = true → k ∈ ks) : IsTold F (toldL F ks) := by
  refine ⟨?_, ?_, ?_⟩
  · unfold toldL
    rw [List.pairwise_filterMap]
    refine (nmsL_sorted ks).imp ?_
    intro a b h x hx y hy
    rw [hFk a x hx, hFk b y hy]; exact h
  · intro x hx
    obtain ⟨k, hk, hx⟩ := List.mem_filterMap.1 hx
    have := hFk k x hx
    subst this
    exact ⟨hok _ ((nmsL_mem _ _).1 hk), hx⟩
  · intro k hk hs
    obtain ⟨x, hx⟩ := Option.isSome_iff_exists.1 hs
    exact ⟨x, List.mem_filterMap.2 ⟨k, (nmsL_mem _ _).2 (hks k hs), hx⟩, hFk k x hx⟩
theorem sorted_eq {α : Type} {r : α → α → Prop} (irr : ∀ a b, r a b → ¬ r b a) : ∀ (L M : List α), L.Pairwise r → M.Pairwise r → (∀ x, x ∈ L ↔ x ∈ M) → L = M
  | [], [], _, _, _ => rfl
  | [], b :: M, _, _, h => absurd ((h b).2 (by simp)) (by simp)
  | a :: L, [], _, _, h => absurd ((h a).1 (by simp)) (by simp)
  | a :: L, b :: M, h1, h2, h => by
    obtain ⟨p1, q1⟩ := List.pairwise_cons.1 h1
    obtain ⟨p2, q2⟩ := List.pairwise_cons.1 h2
    have e : a = b := by
      rcases List.mem_cons.1 ((h a).1 (by simp)) with e | ha
      · exact e
      · rcases List.mem_cons.1 ((h b).2 (by simp)) with e | hb
        · exact e.symm
        · exact absurd (p2 a ha) (irr _ _ (p1 b hb))
    subst e
    congr 1
    refine sorted_eq irr L M q1 q2 fun x => ?_
    have hx := h x
    rw [List.mem_cons, List.mem_cons] at hx
    constructor
    · intro hl
      rcases hx.1 (.inr hl) with e | hm
      · subst e; exact absurd (p1 x hl) (irr _ _ (p1 x hl))
      · exact hm
    · intro hm
      rcases hx.2 (.inr hm) with e | hl
      · subst e; exact absurd (p2 x hm) (irr _ _ (p2 x hm))
      · exact hl
theorem told_eq {F : Nm → Option Ver} {L M : List Ver} (h : IsTold F L) (k : IsTold F M) : L = M := by
  refine sorted_eq (r := fun a b => cmpNm a.f0 b.f0 < 0) (fun a b h => by rw [cmpNm_neg] at *; omega) L M h.1 k.1 fun x => ?_
  have one : ∀ {L M : List Ver}, IsTold F L → IsTold F M → x ∈ L → x ∈ M := fun {L M} h k hx => by
    obtain ⟨h1, h2⟩ := h.2.1 x hx
    obtain ⟨y, hy, e⟩ := k.2.2 x.f0 h1 (by rw [h2]; rfl)
    have := (k.2.1 y hy).2
    rw [e, h2] at this
    cases this
    exact hy
  exact ⟨one h k, one k h⟩
def nokB (k : Nm) : Bool := (Lit.int .u64 k.f0).wf && (Lit.int .u32 k.f1).wf
theorem nokB_iff (k : Nm) : nokB k = true ↔ Nok k := by unfold nokB Nok; rw [Bool.and_eq_true]
/-- What is asked of versions. -/
def okV (l : List Ver) : Bool := l.all (fun x => nokB x.f0 && decide (x.f1.length * 40 ≤ 140737488355328)) && decide (l.length * 48 ≤ 140737488355328)
theorem okV_iff (l : List Ver) : okV l = true ↔ (∀ x ∈ l, Nok x.f0) ∧ (∀ x ∈ l, x.f1.length * 40 ≤ 140737488355328) ∧ l.length * 48 ≤ 140737488355328 := by
  unfold okV
  rw [Bool.and_eq_true, List.all_eq_true, decide_eq_true_iff]
  simp only [Bool.and_eq_true, decide_eq_true_iff, nokB_iff]
  exact ⟨fun h => ⟨fun x hx => (h.1 x hx).1, fun x hx => (h.1 x hx).2, h.2⟩, fun h => ⟨fun x hx => ⟨h.1 x hx, h.2.1 x hx⟩, h.2.2⟩⟩
theorem uptoF_f0 (l : List Ver) (ep : Int) (k : Nm) (x : Ver) (h : uptoF l ep k = some x) : x.f0 = k := by
  unfold uptoF at h
  split at h
  · cases h
  · obtain ⟨y, hy, rfl⟩ := Option.map_eq_some_iff.1 h
    rw [asOf_f0]; exact firstOf_f0 l k y hy
theorem firstOf_names (l : List Ver) (k : Nm) (h : (firstOf l k).isSome = true) : k ∈ l.map (·.f0) := by
  obtain ⟨x, hx⟩ := Option.isSome_iff_exists.1 h
  exact List.mem_map.2 ⟨x, firstOf_mem l k x hx, firstOf_f0 l k x hx⟩
theorem uptoF_names (l : List Ver) (ep : Int) (k : Nm) (h : (uptoF l ep k).isSome = true) : k ∈ l.map (·.f0) := by
  unfold uptoF at h
  split at h
  · cases h
  · exact firstOf_names l k (by simpa using h)
theorem mergedF_names (l m : List Ver) (k : Nm) (h : (mergedF l m k).isSome = true) : k ∈ l.map (·.f0) ++ m.map (·.f0) := by
  rw [List.mem_append]
  cases h1 : firstOf l k with
  | some x => exact .inl (firstOf_names l k (by rw [h1]; rfl))
  | none =>
    refine .inr (firstOf_names m k ?_)
    unfold mergedF at h
    rw [h1] at h
    cases h2 : firstOf m k with
    | none => rw [h2] at h; cases h
    | some y => rfl
def uptoL (l : List Ver) (ep : Int) : List Ver := toldL (uptoF l ep) (l.map (·.f0))
def changesL (l : List Ver) (since ep : Int) : List Ver := (uptoL l ep).filter (fun x => !oldP since x)
def mergedL (l m : List Ver) : List Ver := toldL (mergedF l m) (l.map (·.f0) ++ m.map (·.f0))
theorem uptoL_is (l : List Ver) (ep : Int) (h : ∀ x ∈ l, Nok x.f0) : IsTold (uptoF l ep) (uptoL l ep) :=
  toldL_is _ _ (uptoF_f0 l ep) (fun k hk => by obtain ⟨x, hx, rfl⟩ := List.mem_map.1 hk; exact h x hx) (uptoF_names l ep)
theorem mergedL_is (l m : List Ver) (h : ∀ x ∈ l, Nok x.f0) (h' : ∀ x ∈ m, Nok x.f0) : IsTold (mergedF l m) (mergedL l m) :=
  toldL_is _ _ (mergedF_f0 l m) (fun k hk => by
    rcases List.mem_append.1 hk with hk | hk
    · obtain ⟨x, hx, rfl⟩ := List.mem_map.1 hk; exact h x hx
    · obtain ⟨x, hx, rfl⟩ := List.mem_map.1 hk; exact h' x hx) (mergedF_names l m)
end Go.Proofs.Ytfepfpcilmaojaa.QV
/- How an argument that reads as data is opened into kinds (Kd) of the print's words: whole numbers, bools, strings, structs, arrays of two and three, slices of these, at any depth; with the bounds that the row's reach and its bulk give. -/
namespace Go.Proofs.Ytfepfpcilmaojaa.Op
open Go.RowKit Go.Proofs.YtfepfpcilmaojaaW.PrintWords
set_option linter.unusedVariables false

def Opens {α : Type} (P : Program) (t : TypeId) (d : Kd α) (g : α → Prop) (m : α → Nat) : Prop :=
  ∀ {H : Type} (enc : TypeId × Value → H) (w : World) (base : Nat) (spare : Nat → Bool) (held : Bool) (fuel : Nat) (cs : List Value) (x : DataW H × List MemPlace),
    DataW.trod enc P w base spare held fuel t cs = some x → (∀ n ∈ x.1.weights P t, n ≤ reachBytes) → ∃ a, d.K w a cs ∧ g a ∧ m a ≤ Rows.uptoBulk x.1

theorem opens_int {P : Program} {t : TypeId} {k : IntKind} (ht : P.underlying t = some (.int k)) : Opens P t (Kd.int k) (fun n => (Lit.int k n).wf = true) (fun _ => 1) := by
  intro H enc w base spare held fuel cs x h _
  obtain ⟨n, rfl, rfl, hw⟩ := DataW.trod_int ht h
  exact ⟨n, rfl, hw, by simp [Rows.uptoBulk]⟩
theorem opens_bool {P : Program} {t : TypeId} (ht : P.underlying t = some .bool) : Opens P t Kd.bool (fun _ => True) (fun _ => 1) := by
  intro H enc w base spare held fuel cs x h _
  obtain ⟨b, rfl, rfl⟩ := DataW.trod_bool ht h
  exact ⟨b, rfl, trivial, by simp [Rows.uptoBulk]⟩
theorem opens_string {P : Program} {t : TypeId} (ht : P.underlying t = some .string) : Opens P t Kd.string (fun s => s.size ≤ 140737488351232) (fun s => s.size + 1) := by
  intro H enc w base spare held fuel cs x h hs
  obtain ⟨s, rfl, rfl, hw⟩ := DataW.trod_string ht h
  have hl : s.data.toList.length = s.size := by rw [Array.length_toList]; rfl
  refine ⟨s, rfl, ?_, by simp only [Rows.uptoBulk]; omega⟩
  have := hs s.data.toList.length (by simp [DataW.weights])
  rw [hl] at this
  exact this

theorem add_add (a : Addr) (m j : Nat) : (a.add m).add j = a.add (m + j) := by
  unfold Addr.add
  by_cases h1 : m = 0
  · subst h1; simp
  · by_cases h2 : j = 0
    · subst h2; simp [h1]
    · simp [h1, h2, Nat.add_assoc]
theorem cells_get {w : World} {base n : Nat} {a : Addr} {cs : List Value} (h : w.cells? base a n = some cs) : cs.length = n ∧ ∀ j u, cs[j]? = some u → w.cell? (a.add j) = some u := by
  unfold World.cells? at h
  split at h
  · have hl := mapM_some_length h
    refine ⟨by simpa using hl, fun j u hu => ?_⟩
    have hj : j < cs.length := (List.getElem?_eq_some_iff.1 hu).1
    have := mapM_some_get h j j (by rw [List.getElem?_range]; rw [hl] at hj; simpa using hj)
    rw [this]; exact hu
  · cases h

theorem weightsAll_mem {H : Type} {P : Program} {e : TypeId} : ∀ {l : List (DataW H)} {x : DataW H}, x ∈ l → ∀ n ∈ x.weights P e, n ∈ DataW.weightsAll P e l
  | [], _, h => by simp at h
  | y :: r, x, h => by
    intro n hn
    simp only [DataW.weightsAll, List.mem_append]
    rcases List.mem_cons.1 h with rfl | h
    · exact .inl hn
    · exact .inr (weightsAll_mem h n hn)

/-- One list of data against one list of values, element by element. -/
theorem all_open {α : Type} {H : Type} {K : α → List Value → Prop} {g : α → Prop} {m : α → Nat} {css : Nat → List Value → Prop} :
    ∀ (elems : List (DataW H × List MemPlace)) (o : Nat), (∀ i x, elems[i]? = some x → ∃ a cs, css (o + i) cs ∧ K a cs ∧ g a ∧ m a ≤ Rows.uptoBulk x.1) →
      ∃ zs : List α, zs.length = elems.length ∧ (∀ i a, zs[i]? = some a → ∃ cs, css (o + i) cs ∧ K a cs) ∧ (∀ a ∈ zs, g a) ∧ (zs.map m).sum ≤ Rows.uptoBulkAll (elems.map (·.1))
  | [], o, _ => ⟨[], rfl, by simp, by simp, by simp⟩
  | x :: r, o, h => by
    obtain ⟨a, cs, h1, h2, h3, h4⟩ := h 0 x rfl
    obtain ⟨zs, k1, k2, k3, k4⟩ := all_open (css := css) r (o + 1) (fun i y hy => by
      have := h (i + 1) y (by simpa using hy)
      rwa [show o + (i + 1) = o + 1 + i from by omega] at this)
    refine ⟨a :: zs, by simp [k1], fun i b hb => ?_, fun b hb => ?_, ?_⟩
    · cases i with
      | zero =>
        have : a = b := by simpa using hb
        subst this
        exact ⟨cs, h1, h2⟩
      | succ i =>
        have := k2 i b (by simpa using hb)
        rwa [show o + 1 + i = o + (i + 1) from by omega] at this
    · rcases List.mem_cons.1 hb with rfl | hb
      · exact h3
      · exact k3 b hb
    · simp only [List.map_cons, List.sum_cons, Rows.uptoBulkAll]
      omega

theorem opens_slice {P : Program} {t e : TypeId} {α : Type} {d : Kd α} {g : α → Prop} {m : α → Nat} (ht : P.underlying t = some (.slice e)) (hc : P.cellsOf e = d.sz) {B : Nat} (hB : P.bytesOf e = B) (he : Opens P e d g m) :
    Opens P t (Kd.slice e d) (fun xs => (∀ x ∈ xs, g x) ∧ xs.length ≤ 9223372036854775807 ∧ xs.length * B ≤ 140737488351232) (fun xs => (xs.map m).sum + 1) := by
  intro H enc w base spare held fuel cs x h hs
  rcases DataW.trod_slice ht h with ⟨rfl, rfl⟩ | ⟨a, len, cap, elems, rest, n, rfl, rfl, rfl, _, hl, hm, hel, hget, _⟩
  · exact ⟨[], ⟨none, 0, rfl, Nat.le_refl _, Kd.C_nil d w⟩, by simp, by simp [Rows.uptoBulk]⟩
  · have hw : ∀ y ∈ elems, ∀ n ∈ y.1.weights P e, n ≤ reachBytes := fun y hy n hn => hs n (by
      simp only [DataW.weights, ht, List.mem_cons, List.mem_append]
      exact .inr (.inl (weightsAll_mem (List.mem_map_of_mem hy) n hn)))
    have hlen : (elems.map (·.1)).length + (rest.map (·.1)).length = elems.length + rest.length := by simp
    have hb := hs _ (by simp only [DataW.weights, ht, List.mem_cons]; exact .inl rfl)
    rw [hlen, hB] at hb
    obtain ⟨zs, k1, k2, k3, k4⟩ := all_open (K := d.K w) (g := g) (m := m) (css := fun i cs => w.cells? base (a.add (i * d.sz)) d.sz = some cs) elems 0 (fun i y hy => by
      have hi : i < len := by rw [← hel]; exact (List.getElem?_eq_some_iff.1 hy).1
      have hg := hget i hi
      rw [hy, hc] at hg
      obtain ⟨cs, h1, h2⟩ := Option.bind_eq_some_iff.1 hg
      obtain ⟨b, h3, h4, h5⟩ := he enc w base spare held n cs y h2 (hw y (List.mem_of_getElem? hy))
      exact ⟨b, cs, by simpa using h1, h3, h4, h5⟩)
    have hle : zs.length * B ≤ 140737488351232 := by
      rw [k1]
      exact Nat.le_trans (Nat.mul_le_mul_right _ (Nat.le_add_right _ _)) hb
    have hmax : zs.length ≤ 9223372036854775807 := by
      rw [k1, hel]; unfold maxLen at hm; omega
    refine ⟨zs, ⟨some a, cap, by rw [k1, hel], by rw [k1, hel]; exact hl, rfl, hmax, fun _ => ⟨a, rfl, fun j p hj => ?_⟩⟩, ⟨k3, hmax, hle⟩, ?_⟩
    · obtain ⟨cs, h1, h2⟩ := k2 j p hj
      obtain ⟨h3, h4⟩ := cells_get h1
      simp only [Nat.zero_add] at h4
      exact ⟨cs, h3, h2, fun i u hu => by rw [← add_add]; exact h4 i u hu⟩
    · simp only [Rows.uptoBulk]; omega

/-- A struct's fields from place o on. -/
def OpensF {α : Type} (P : Program) (fs : List Field) (o : Nat) (d : Kd α) (g : α → Prop) (m : α → Nat) : Prop :=
  ∀ {H : Type} (enc : TypeId × Value → H) (w : World) (base : Nat) (spare : Nat → Bool) (held : Bool) (fuel : Nat) (cs : List Value) (xs : List (DataW H × List MemPlace)),
    xs.length = fs.length → (∀ (i : Nat) (f : Field), fs[i]? = some f → DataW.trod enc P w base spare held fuel f.type ((cs.drop f.offset).take (P.cellsOf f.type)) = xs[i]?) → cs.length = o + d.sz →
      (∀ n ∈ DataW.weightsEach P (fs.map (·.type)) (xs.map (·.1)), n ≤ reachBytes) → ∃ a, d.K w a (cs.drop o) ∧ g a ∧ m a ≤ Rows.uptoBulkAll (xs.map (·.1))
theorem opensF_last {P : Program} {f : Field} {o : Nat} {α : Type} {d : Kd α} {g : α → Prop} {m : α → Nat} (ho : f.offset = o) (hc : P.cellsOf f.type = d.sz) (h : Opens P f.type d g m) : OpensF P [f] o d g m := by
  intro H enc w base spare held fuel cs xs hl hget hcs hs
  match xs, hl with
  | [x], _ =>
    have h1 := hget 0 f rfl
    simp only [List.getElem?_cons_zero, ho, hc] at h1
    rw [List.take_of_length_le (by rw [List.length_drop]; omega)] at h1
    obtain ⟨a, k1, k2, k3⟩ := h enc w base spare held fuel _ x h1 (fun n hn => hs n (by simp only [List.map_cons, DataW.weightsEach, List.mem_append]; exact .inl hn))
    exact ⟨a, k1, k2, by simp only [List.map_cons, Rows.uptoBulkAll]; omega⟩
theorem opensF_cons {P : Program} {f : Field} {fs : List Field} {o o' : Nat} {α β : Type} {d : Kd α} {g : α → Prop} {m : α → Nat} {d' : Kd β} {g' : β → Prop} {m' : β → Nat} (ho : f.offset = o) (hc : P.cellsOf f.type = d.sz) (hoo : o + d.sz = o')
    (h : Opens P f.type d g m) (h' : OpensF P fs o' d' g' m') : OpensF P (f :: fs) o (Kd.pair d d') (fun x => g x.1 ∧ g' x.2) (fun x => m x.1 + m' x.2) := by
  intro H enc w base spare held fuel cs xs hl hget hcs hs
  match xs, hl with
  | x :: r, hl =>
    have hsz : (Kd.pair d d').sz = d.sz + d'.sz := rfl
    rw [hsz] at hcs
    have h1 := hget 0 f rfl
    simp only [List.getElem?_cons_zero, ho, hc] at h1
    obtain ⟨a, k1, k2, k3⟩ := h enc w base spare held fuel _ x h1 (fun n hn => hs n (by simp only [List.map_cons, DataW.weightsEach, List.mem_append]; exact .inl hn))
    obtain ⟨b, q1, q2, q3⟩ := h' enc w base spare held fuel cs r (by simpa using hl) (fun (i : Nat) (f : Field) hf => by simpa using hget (i + 1) f (by simpa using hf)) (by omega) (fun n hn => hs n (by simp only [List.map_cons, DataW.weightsEach, List.mem_append]; exact .inr hn))
    refine ⟨(a, b), ⟨(cs.drop o).take d.sz, cs.drop o', ?_, k1, q1⟩, ⟨k2, q2⟩, by simp only [List.map_cons, Rows.uptoBulkAll]; omega⟩
    rw [← hoo, ← List.drop_drop, List.take_append_drop]
theorem opens_struct {P : Program} {t : TypeId} {fs : Array Field} {α : Type} {d : Kd α} {g : α → Prop} {m : α → Nat} (ht : P.underlying t = some (.struct fs)) (hc : P.cellsOf t = d.sz) (h : OpensF P fs.toList 0 d g m) : Opens P t d g m := by
  intro H enc w base spare held fuel cs x hx hs
  obtain ⟨xs, n, rfl, rfl, hl, hxl, hget⟩ := DataW.trod_struct ht hx
  obtain ⟨a, h1, h2, h3⟩ := h enc w base spare held n cs xs (by simpa using hxl) (fun i f hf => hget i f (by simpa using hf)) (by omega) (fun n hn => hs n (by simpa only [DataW.weights, ht] using hn))
  refine ⟨a, by simpa using h1, h2, ?_⟩
  simp only [Rows.uptoBulk]
  omega
theorem opens_iso {P : Program} {t : TypeId} {α β : Type} {d : Kd α} {g : α → Prop} {m : α → Nat} {f : β → α} {b : α → β} (hfb : ∀ x, f (b x) = x) (h : Opens P t d g m) : Opens P t (Kd.iso d f) (fun x => g (f x)) (fun x => m (f x)) := by
  intro H enc w base spare held fuel cs x hx hs
  obtain ⟨a, h1, h2, h3⟩ := h enc w base spare held fuel cs x hx hs
  exact ⟨b a, by show d.K w (f (b a)) cs; rw [hfb]; exact h1, by show g (f (b a)); rw [hfb]; exact h2, by show m (f (b a)) ≤ _; rw [hfb]; exact h3⟩
theorem opens_mono {P : Program} {t : TypeId} {α : Type} {d : Kd α} {g g' : α → Prop} {m m' : α → Nat} (hg : ∀ x, g x → g' x) (hm : ∀ x, m' x ≤ m x) (h : Opens P t d g m) : Opens P t d g' m' := by
  intro H enc w base spare held fuel cs x hx hs
  obtain ⟨a, h1, h2, h3⟩ := h enc w base spare held fuel cs x hx hs
  exact ⟨a, h1, hg a h2, Nat.le_trans (hm a) h3⟩
theorem len_le_sum {α : Type} {m : α → Nat} (h : ∀ x, 1 ≤ m x) : ∀ l : List α, l.length ≤ (l.map m).sum
  | [] => by simp
  | x :: l => by have := h x; have := len_le_sum h l; simp only [List.length_cons, List.map_cons, List.sum_cons]; omega
end Go.Proofs.Ytfepfpcilmaojaa.Op
/- How the arguments of layer 18 are opened into the print's kinds. -/
namespace Go.Proofs.Ytfepfpcilmaojaa.QV
open Go.RowKit Go.Proofs.YtfepfpcilmaojaaW.PrintWords Go.Proofs.Ytfepfpcilmaojaa.Op
set_option linter.unusedVariables false
theorem oS : Opens Try.prog 36 k36 (fun _ => True) (fun x => x.f3.size + 4) :=
  opens_mono (fun _ _ => trivial) (fun x => by simp only; omega)
    (opens_iso (b := fun x => ⟨x.1, x.2.1, x.2.2.1, x.2.2.2⟩) (fun _ => rfl) (opens_struct Try.underlying36 (by kernel_rfl)
      (opensF_cons rfl (by kernel_rfl) rfl (opens_int Try.underlying3) (opensF_cons rfl (by kernel_rfl) rfl (opens_bool Try.underlying4) (opensF_cons rfl (by kernel_rfl) rfl (opens_int Try.underlying2) (opensF_last rfl (by kernel_rfl) (opens_string Try.underlying9)))))))
theorem oSs : Opens Try.prog 32 (Kd.slice 36 k36) (fun xs => xs.length * 40 ≤ 140737488351232) (fun xs => 1) :=
  opens_mono (fun _ h => h.2.2) (fun xs => by omega) (opens_slice Try.underlying32 (by kernel_rfl) (by kernel_rfl) oS)
theorem oNm : Opens Try.prog tNm k31 (fun x => Nok x) (fun _ => 1) :=
  opens_mono (fun _ h => ⟨h.1, h.2⟩) (fun x => by simp)
    (opens_iso (b := fun x => ⟨x.1, x.2⟩) (fun _ => rfl) (opens_struct Try.underlying31 (by kernel_rfl)
      (opensF_cons rfl (by kernel_rfl) rfl (opens_int Try.underlying23) (opensF_last rfl (by kernel_rfl) (opens_int Try.underlying29)))))
theorem oVer : Opens Try.prog tVer kVer (fun x => Nok x.f0 ∧ x.f1.length * 40 ≤ 140737488351232) (fun _ => 1) :=
  opens_mono (fun _ h => ⟨h.1, h.2.1⟩) (fun x => by omega)
    (opens_iso (b := fun x => ⟨x.1, x.2.1, x.2.2⟩) (fun _ => rfl) (opens_struct Try.underlying34 (by kernel_rfl)
      (opensF_cons rfl (by kernel_rfl) rfl oNm (opensF_cons rfl (by kernel_rfl) rfl oSs (opensF_last rfl (by kernel_rfl) (opens_int Try.underlying23))))))
/-- Versions: all that the walks ask of them. -/
theorem oVers : Opens Try.prog 22 (Kd.slice tVer kVer) (fun xs => okV xs = true ∧ xs.length * 48 ≤ 140737488351232) (fun xs => xs.length + 1) :=
  opens_mono (fun xs h => ⟨(okV_iff xs).2 ⟨fun x hx => (h.1 x hx).1, fun x hx => by have := (h.1 x hx).2; omega, by have := h.2.2; omega⟩, h.2.2⟩)
    (fun xs => by have := len_le_sum (m := fun _ : Ver => 1) (fun _ => by omega) xs; omega) (opens_slice (B := 48) Try.underlying22 (by kernel_rfl) (by kernel_rfl) oVer)
end Go.Proofs.Ytfepfpcilmaojaa.QV
/- Printed by mp.py (this session's) with the kit's print: plain functions with the answers of the Go code, and the proofs of it. -/
namespace Go.Proofs.Ytfepfpcilmaojaa.QV
open Go.RowKit Go.Proofs.YtfepfpcilmaojaaW.PrintWords Go.Proofs.YtfepfpcilmaojaaW.PrintLast Go.Proofs.YtfepfpcilmaojaaW.PrintMore
attribute [local go_sem] max2_int min2_int max_two min_two max_three min_three max_four min_four   -- for this text's walks alone
set_option linter.unusedVariables false
set_option linter.unusedSimpArgs false

theorem eqA50 (d : Nat) (w : World) (x0 y0 : Int) (x1 y1 : Int) :
    (Op.equalIn (d + 2) 50 (.agg #[.int .i64 x0, .int .i64 x1]) (.agg #[.int .i64 y0, .int .i64 y1])).run Try.prog w = .ok (x0 == y0 && (x1 == y1)) w := by
  refine eqA_of Try.underlying50 (by kernel_rfl) ?_
  refine eqf_cons (by rfl) (by go_simp; rfl) (by go_simp; rfl) (by go_simp) ?_
  exact eqf_last (by rfl) (by go_simp; rfl) (by go_simp; rfl) (by go_simp)
end Go.Proofs.Ytfepfpcilmaojaa.QV
/- Printed by mp.py (this session's) with the kit's print: plain functions with the answers of the Go code, and the proofs of it. -/
namespace Go.Proofs.Ytfepfpcilmaojaa.QV
open Go.RowKit Go.Proofs.YtfepfpcilmaojaaW.PrintWords Go.Proofs.YtfepfpcilmaojaaW.PrintLast Go.Proofs.YtfepfpcilmaojaaW.PrintMore
attribute [local go_sem] max2_int min2_int max_two min_two max_three min_three max_four min_four   -- for this text's walks alone
set_option linter.unusedVariables false
set_option linter.unusedSimpArgs false

theorem eqA31 (d : Nat) (w : World) (x0 y0 : Int) (x1 y1 : Int) :
    (Op.equalIn (d + 2) 31 (.agg #[.int .u64 x0, .int .u32 x1]) (.agg #[.int .u64 y0, .int .u32 y1])).run Try.prog w = .ok (x0 == y0 && (x1 == y1)) w := by
  refine eqA_of Try.underlying31 (by kernel_rfl) ?_
  refine eqf_cons (by rfl) (by go_simp; rfl) (by go_simp; rfl) (by go_simp) ?_
  exact eqf_last (by rfl) (by go_simp; rfl) (by go_simp; rfl) (by go_simp)
end Go.Proofs.Ytfepfpcilmaojaa.QV
/- Printed by mp.py (this session's) with the kit's print: plain functions with the answers of the Go code, and the proofs of it. -/
namespace Go.Proofs.Ytfepfpcilmaojaa.QV
open Go.RowKit Go.Proofs.YtfepfpcilmaojaaW.PrintWords Go.Proofs.YtfepfpcilmaojaaW.PrintLast Go.Proofs.YtfepfpcilmaojaaW.PrintMore
attribute [local go_sem] max2_int min2_int max_two min_two max_three min_three max_four min_four   -- for this text's walks alone
set_option linter.unusedVariables false
set_option linter.unusedSimpArgs false

theorem eqA36 (d : Nat) (w : World) (x0 y0 : Int) (x1 y1 : Bool) (x2 y2 : Int) (x3 y3 : ByteArray) :
    (Op.equalIn (d + 2) 36 (.agg #[.int .i64 x0, .bool x1, .int .i64 x2, .string x3]) (.agg #[.int .i64 y0, .bool y1, .int .i64 y2, .string y3])).run Try.prog w = .ok (x0 == y0 && (x1 == y1 && (x2 == y2 && (x3.toList == y3.toList)))) w := by
  refine eqA_of Try.underlying36 (by kernel_rfl) ?_
  refine eqf_cons (by rfl) (by go_simp; rfl) (by go_simp; rfl) (by go_simp) ?_
  refine eqf_cons (by rfl) (by go_simp; rfl) (by go_simp; rfl) (by go_simp) ?_
  refine eqf_cons (by rfl) (by go_simp; rfl) (by go_simp; rfl) (by go_simp) ?_
  exact eqf_last (by rfl) (by go_simp; rfl) (by go_simp; rfl) (by go_simp)
end Go.Proofs.Ytfepfpcilmaojaa.QV
/- The contracts of recover's functions in the print's form. -/
namespace Go.Proofs.Ytfepfpcilmaojaa.QV
open Go.RowKit Go.Proofs.YtfepfpcilmaojaaW.PrintWords Go.Proofs.Ytfepfpcilmaojaa.Mp
set_option linter.unusedVariables false
def recover_Upto.f (l : List Ver) (ep : Int) : Option (List Ver) := if okV l = true then some (uptoL l ep) else none
def recover_Changes.f (l : List Ver) (since ep : Int) : Option (List Ver) := if okV l = true then some (changesL l since ep) else none
def recover_Merged.f (l m : List Ver) : Option (List Ver) := if okV l = true ∧ okV m = true ∧ (nmsL (l.map (·.f0) ++ m.map (·.f0))).length * 48 ≤ 140737488355328 then some (mergedL l m) else none
def sokB (k : Sg) : Bool := (Lit.int .i64 k.f0).wf && (Lit.int .i64 k.f1).wf
theorem sokB_iff (k : Sg) : sokB k = true ↔ Sok k := by unfold sokB Sok; rw [Bool.and_eq_true]
def recover_Missing.f (l : List Sg) (m : List Hd) : Option (List Sg) := if l.all sokB = true ∧ m.all (fun h => sokB h.f0) = true ∧ l.length * 16 ≤ 140737488355328 ∧ m.length < 9223372036854775807 then some (l.filter (fun k => !heldB m k)) else none
theorem recover_Upto.calls (A : Option Addr) (c : Nat) (l : List Ver) (ep : Int) (r : List Ver) (w : World) (hr : kVer.C w A l.length l) (hc : l.length ≤ c) (h : recover_Upto.f l ep = some r) :
    Calls Try.prog 11 #[.slice A l.length c, .int .u64 ep] w fun e w' => ∃ v, e = .returned v ∧ Kd.S kVer tVer w' w.heap.size (fun _ => True) v r ∧ Below w.heap.size w w' := by
  unfold recover_Upto.f at h
  split at h
  · rename_i hk
    obtain ⟨h1, h2, h3⟩ := (okV_iff l).1 hk
    cases h
    refine (upto_any A l c ep w hr hc h1 h3 h2).mono ?_
    rintro e w' ⟨v, L, wb, rfl, hT, hL, hBb, hO, hB⟩
    obtain rfl := told_eq hT (uptoL_is l ep h1)
    exact ⟨v, rfl, Kd.S_lower hO.S hBb.size, hB⟩
  · cases h
theorem recover_Changes.calls (A : Option Addr) (c : Nat) (l : List Ver) (since ep : Int) (r : List Ver) (w : World) (hr : kVer.C w A l.length l) (hc : l.length ≤ c) (h : recover_Changes.f l since ep = some r) :
    Calls Try.prog 12 #[.slice A l.length c, .int .u64 since, .int .u64 ep] w fun e w' => ∃ v, e = .returned v ∧ Kd.S kVer tVer w' w.heap.size (fun _ => True) v r ∧ Below w.heap.size w w' := by
  unfold recover_Changes.f at h
  split at h
  · rename_i hk
    obtain ⟨h1, h2, h3⟩ := (okV_iff l).1 hk
    cases h
    refine (changes_any A l c since ep w hr hc h1 h3 h2).mono ?_
    rintro e w' ⟨v, L, rfl, hT, hL, hS, hB⟩
    obtain rfl := told_eq hT (uptoL_is l ep h1)
    exact ⟨v, rfl, hS, hB⟩
  · cases h
theorem recover_Merged.calls (A0 : Option Addr) (c0 : Nat) (l : List Ver) (A1 : Option Addr) (c1 : Nat) (m : List Ver) (r : List Ver) (w : World) (hr0 : kVer.C w A0 l.length l) (hc0 : l.length ≤ c0) (hr1 : kVer.C w A1 m.length m) (hc1 : m.length ≤ c1) (h : recover_Merged.f l m = some r) :
    Calls Try.prog 17 #[.slice A0 l.length c0, .slice A1 m.length c1] w fun e w' => ∃ v, e = .returned v ∧ Kd.S kVer tVer w' w.heap.size (fun _ => True) v r ∧ Below w.heap.size w w' := by
  unfold recover_Merged.f at h
  split at h
  · rename_i hk
    obtain ⟨hk0, hk1, hk2⟩ := hk
    obtain ⟨h1, h2, h3⟩ := (okV_iff l).1 hk0
    obtain ⟨g1, g2, g3⟩ := (okV_iff m).1 hk1
    cases h
    refine (merged_any A0 c0 l A1 c1 m w hr0 hc0 hr1 hc1 h1 g1 h3 g3 (nmsL (l.map (·.f0) ++ m.map (·.f0))) (fun k hne => (nmsL_mem _ _).2 (mergedF_names l m k (by cases h : mergedF l m k with | none => exact absurd h hne | some x => rfl))) hk2 h2 g2).mono ?_
    rintro e w' ⟨v, L, rfl, hT, hL, hS, hB⟩
    obtain rfl := told_eq hT (mergedL_is l m h1 g1)
    exact ⟨v, rfl, hS, hB⟩
  · cases h
theorem recover_Missing.calls (A0 : Option Addr) (c0 : Nat) (l : List Sg) (A1 : Option Addr) (c1 : Nat) (m : List Hd) (r : List Sg) (w : World) (hr0 : kSg.C w A0 l.length l) (hc0 : l.length ≤ c0) (hr1 : kHd.C w A1 m.length m) (hc1 : m.length ≤ c1) (h : recover_Missing.f l m = some r) :
    Calls Try.prog 23 #[.slice A0 l.length c0, .slice A1 m.length c1] w fun e w' => ∃ v, e = .returned v ∧ kSg.R tSg w' w.heap.size (fun _ => True) v r ∧ Below w.heap.size w w' := by
  unfold recover_Missing.f at h
  split at h
  · rename_i hk
    obtain ⟨h1, h2, h3, h4⟩ := hk
    cases h
    exact missing_any A0 c0 l A1 c1 m w hr0 hc0 hr1 hc1 (fun x hx => (sokB_iff x).1 (List.all_eq_true.1 h1 x hx)) (fun x hx => (sokB_iff x.f0).1 (List.all_eq_true.1 h2 x hx)) h3 h4
  · cases h
end Go.Proofs.Ytfepfpcilmaojaa.QV
/- Printed by mp.py (this session's) with the kit's print: plain functions with the answers of the Go code, and the proofs of it. -/
namespace Go.Proofs.Ytfepfpcilmaojaa.QV
open Go.RowKit Go.Proofs.YtfepfpcilmaojaaW.PrintWords Go.Proofs.YtfepfpcilmaojaaW.PrintLast Go.Proofs.YtfepfpcilmaojaaW.PrintMore
attribute [local go_sem] max2_int min2_int max_two min_two max_three min_three max_four min_four   -- for this text's walks alone
set_option linter.unusedVariables false
set_option linter.unusedSimpArgs false

attribute [local go_sem high] eqA31 eqA36
/-! ### hayloftlaw18_alive: function 13 -/
def hayloftlaw18_alive.f  : Option (Bool) := (some (([(⟨(⟨2, 0⟩ : S31), ([] : List (S36)), 0⟩ : S34), (⟨(⟨1, 0⟩ : S31), ([] : List (S36)), 3⟩ : S34)] : List (S34)) : List (S34))).bind fun y101 => ((recover_Upto.f y101 2).bind fun t104 => ((recover_Changes.f y101 2 3).bind fun t107 => (if (t104.length : Int) = 2 then (if 0 < (t104.length : Int) then (if ((rd_T34 t104 0).f0.f0) = 1 then (if ((rd_T34 t104 0).f2) = 0 then (if (t107.length : Int) = 1 then (if 0 < (t107.length : Int) then (if ((rd_T34 t107 0).f2) = 3 then ((recover_Merged.f t104 t107).bind fun t113 => (if (t113.length : Int) = 2 then ((recover_Missing.f (([(⟨1, 0⟩ : S50)] : List (S50))) ([] : List (S66))).bind fun t119 => (some ((t119.length : Int) == 1))) else (some false))) else (some false)) else (none)) else (some false)) else (some false)) else (some false)) else (none)) else (some false))))
set_option maxHeartbeats 8000000 in
set_option maxRecDepth 100000 in
theorem hayloftlaw18_alive.calls  (r : Bool) (w : World) (h : hayloftlaw18_alive.f  = some r) :
    Calls Try.prog 13 #[] w fun e w' => e = .returned (.bool r) ∧ Below w.heap.size w w' := by
  have hu31 := Try.underlying31
  have hu34 := Try.underlying34
  have hu50 := Try.underlying50
  have HB := Aside0.mk (Below.refl w.heap.size w)
  have H : ((some (([(⟨(⟨2, 0⟩ : S31), ([] : List (S36)), 0⟩ : S34), (⟨(⟨1, 0⟩ : S31), ([] : List (S36)), 3⟩ : S34)] : List (S34)) : List (S34))).bind fun y101 => ((recover_Upto.f y101 2).bind fun t104 => ((recover_Changes.f y101 2 3).bind fun t107 => (if (t104.length : Int) = 2 then (if 0 < (t104.length : Int) then (if ((rd_T34 t104 0).f0.f0) = 1 then (if ((rd_T34 t104 0).f2) = 0 then (if (t107.length : Int) = 1 then (if 0 < (t107.length : Int) then (if ((rd_T34 t107 0).f2) = 3 then ((recover_Merged.f t104 t107).bind fun t113 => (if (t113.length : Int) = 2 then ((recover_Missing.f (([(⟨1, 0⟩ : S50)] : List (S50))) ([] : List (S66))).bind fun t119 => (some ((t119.length : Int) == 1))) else (some false))) else (some false)) else (none)) else (some false)) else (some false)) else (some false)) else (none)) else (some false))))) = some r := h
  clear h
  obtain ⟨y101, hy101⟩ : ∃ y_ : List (S34), y_ = (([(⟨(⟨2, 0⟩ : S31), ([] : List (S36)), 0⟩ : S34), (⟨(⟨1, 0⟩ : S31), ([] : List (S36)), 3⟩ : S34)] : List (S34))) := ⟨_, rfl⟩
  replace H : ((recover_Upto.f y101 2).bind fun t104 => ((recover_Changes.f y101 2 3).bind fun t107 => (if (t104.length : Int) = 2 then (if 0 < (t104.length : Int) then (if ((rd_T34 t104 0).f0.f0) = 1 then (if ((rd_T34 t104 0).f2) = 0 then (if (t107.length : Int) = 1 then (if 0 < (t107.length : Int) then (if ((rd_T34 t107 0).f2) = 3 then ((recover_Merged.f t104 t107).bind fun t113 => (if (t113.length : Int) = 2 then ((recover_Missing.f (([(⟨1, 0⟩ : S50)] : List (S50))) ([] : List (S66))).bind fun t119 => (some ((t119.length : Int) == 1))) else (some false))) else (some false)) else (none)) else (some false)) else (some false)) else (some false)) else (none)) else (some false)))) = some r := by first | (rw [hy101]; with_reducible exact H) | (have H2_ := (Option.bind_some _ _).symm.trans H; rw [hy101]; with_reducible exact H2_) | (have H2_ := (Option.bind_some _ _).symm.trans H; with_reducible exact H2_) | with_reducible exact H | (rw [hy101]; exact H) | exact H
  have Ny101 := Aside0.mk hy101
  clear hy101
  replace H := Option.bind_eq_some_iff.mp H
  obtain ⟨t104, A10, H⟩ := H
  replace H : ((recover_Changes.f y101 2 3).bind fun t107 => (if (t104.length : Int) = 2 then (if 0 < (t104.length : Int) then (if ((rd_T34 t104 0).f0.f0) = 1 then (if ((rd_T34 t104 0).f2) = 0 then (if (t107.length : Int) = 1 then (if 0 < (t107.length : Int) then (if ((rd_T34 t107 0).f2) = 3 then ((recover_Merged.f t104 t107).bind fun t113 => (if (t113.length : Int) = 2 then ((recover_Missing.f (([(⟨1, 0⟩ : S50)] : List (S50))) ([] : List (S66))).bind fun t119 => (some ((t119.length : Int) == 1))) else (some false))) else (some false)) else (none)) else (some false)) else (some false)) else (some false)) else (none)) else (some false))) = some r := H
  have A1 := Aside0.mk A10
  clear A10
  replace H := Option.bind_eq_some_iff.mp H
  obtain ⟨t107, A20, H⟩ := H
  replace H : (if (t104.length : Int) = 2 then (if 0 < (t104.length : Int) then (if ((rd_T34 t104 0).f0.f0) = 1 then (if ((rd_T34 t104 0).f2) = 0 then (if (t107.length : Int) = 1 then (if 0 < (t107.length : Int) then (if ((rd_T34 t107 0).f2) = 3 then ((recover_Merged.f t104 t107).bind fun t113 => (if (t113.length : Int) = 2 then ((recover_Missing.f (([(⟨1, 0⟩ : S50)] : List (S50))) ([] : List (S66))).bind fun t119 => (some ((t119.length : Int) == 1))) else (some false))) else (some false)) else (none)) else (some false)) else (some false)) else (some false)) else (none)) else (some false)) = some r := H
  have A2 := Aside0.mk A20
  clear A20
  by_cases c3 : (t104.length : Int) = 2
  · rw [if_pos c3] at H
    have c3b0 : ((t104.length : Int) == 2) = true := beq_iff_eq.mpr c3
    have c3b1 : ((t104.length : Int) != 2) = false := bne_eq_false_iff_eq.mpr c3
    clear c3
    by_cases c4 : 0 < (t104.length : Int)
    · rw [if_pos c4] at H
      have c4b0 : decide (0 < (t104.length : Int)) = true := decide_eq_true c4
      have c4b1 : decide (0 < t104.length) = true := decide_eq_true (by omega)
      clear c4
      by_cases c5 : ((rd_T34 t104 0).f0.f0) = 1
      · rw [if_pos c5] at H
        have c5b0 : (((rd_T34 t104 0).f0.f0) == 1) = true := beq_iff_eq.mpr c5
        have c5b1 : (((rd_T34 t104 0).f0.f0) != 1) = false := bne_eq_false_iff_eq.mpr c5
        clear c5
        by_cases c6 : ((rd_T34 t104 0).f2) = 0
        · rw [if_pos c6] at H
          have c6b0 : (((rd_T34 t104 0).f2) == 0) = true := beq_iff_eq.mpr c6
          have c6b1 : (((rd_T34 t104 0).f2) != 0) = false := bne_eq_false_iff_eq.mpr c6
          clear c6
          by_cases c7 : (t107.length : Int) = 1
          · rw [if_pos c7] at H
            have c7b0 : ((t107.length : Int) == 1) = true := beq_iff_eq.mpr c7
            have c7b1 : ((t107.length : Int) != 1) = false := bne_eq_false_iff_eq.mpr c7
            clear c7
            by_cases c8 : 0 < (t107.length : Int)
            · rw [if_pos c8] at H
              have c8b0 : decide (0 < (t107.length : Int)) = true := decide_eq_true c8
              have c8b1 : decide (0 < t107.length) = true := decide_eq_true (by omega)
              clear c8
              by_cases c9 : ((rd_T34 t107 0).f2) = 3
              · rw [if_pos c9] at H
                have c9b0 : (((rd_T34 t107 0).f2) == 3) = true := beq_iff_eq.mpr c9
                have c9b1 : (((rd_T34 t107 0).f2) != 3) = false := bne_eq_false_iff_eq.mpr c9
                clear c9
                replace H := Option.bind_eq_some_iff.mp H
                obtain ⟨t113, A100, H⟩ := H
                replace H : (if (t113.length : Int) = 2 then ((recover_Missing.f (([(⟨1, 0⟩ : S50)] : List (S50))) ([] : List (S66))).bind fun t119 => (some ((t119.length : Int) == 1))) else (some false)) = some r := H
                have A10 := Aside0.mk A100
                clear A100
                by_cases c11 : (t113.length : Int) = 2
                · rw [if_pos c11] at H
                  have c11b0 : ((t113.length : Int) == 2) = true := beq_iff_eq.mpr c11
                  have c11b1 : ((t113.length : Int) != 2) = false := bne_eq_false_iff_eq.mpr c11
                  clear c11
                  obtain ⟨y116, hy116⟩ : ∃ y_ : List (S50), y_ = (([(⟨1, 0⟩ : S50)] : List (S50))) := ⟨_, rfl⟩
                  replace H : ((recover_Missing.f y116 ([] : List (S66))).bind fun t119 => (some ((t119.length : Int) == 1))) = some r := by first | (rw [hy116]; with_reducible exact H) | (have H2_ := (Option.bind_some _ _).symm.trans H; rw [hy116]; with_reducible exact H2_) | (have H2_ := (Option.bind_some _ _).symm.trans H; with_reducible exact H2_) | with_reducible exact H | (rw [hy116]; exact H) | exact H
                  have Ny116 := Aside0.mk hy116
                  clear hy116
                  replace H := Option.bind_eq_some_iff.mp H
                  obtain ⟨t119, A120, H⟩ := H
                  replace H : (some ((t119.length : Int) == 1)) = some r := H
                  have A12 := Aside0.mk A120
                  clear A120
                  obtain rfl := Option.some.inj H
                  go_enter Try.func13, Try.ntmps13
                  go_wp2_with (first | ((with_reducible refine gate_dst (N := 8) rfl ?_); (try (refine gate_guard (by rfl) ?_; dsimp only)); refine Kd.S_lit k34 _ 34 ?hg (N := 8) ?hd (xs := ([(⟨(⟨2, 0⟩ : S31), ([] : List (S36)), 0⟩ : S34), (⟨(⟨1, 0⟩ : S31), ([] : List (S36)), 3⟩ : S34)] : List (S34))) (inner := [.int .u64 2, .int .u32 0, .slice none 0 0, .int .u64 0, .int .u64 1, .int .u32 0, .slice none 0 0, .int .u64 3]) (ok := fun _ => True) (okp := fun _ => True) ?hr ?hp (fun _ hk => hk) trivial (Below.refl _ _) (Nat.le_refl _) (by simp) ?_; (case hd => rfl); (case hg => rfl); (case hr => first | (go_simp; done) | (go_simp; rfl)); (case hp => exact (Reps.c4 (show Kd.M k34 _ _ _ (⟨(⟨2, 0⟩ : S31), ([] : List (S36)), 0⟩ : S34) [.int .u64 2, .int .u32 0, .slice none 0 0, .int .u64 0] from (k34_mkM _ _ _ (⟨(⟨2, 0⟩ : S31), ([] : List (S36)), 0⟩ : S34) (Kd.R_nil _ _ _ _ _))) (Reps.c4 (show Kd.M k34 _ _ _ (⟨(⟨1, 0⟩ : S31), ([] : List (S36)), 3⟩ : S34) [.int .u64 1, .int .u32 0, .slice none 0 0, .int .u64 3] from (k34_mkM _ _ _ (⟨(⟨1, 0⟩ : S31), ([] : List (S36)), 3⟩ : S34) (Kd.R_nil _ _ _ _ _))) (Reps.none _ _)))); intro v102 w13 ho14 hb hg_ hnew_; clear hg_ hnew_; (first | rw [← Ny101.out] at ho14 | (simp only [Int.reduceToNat] at ho14; rw [← Ny101.out] at ho14)); have n0_ := Aside0.mk (Kd.S_lower ho14 (below_size (by repeat (first | (with_reducible first | exact HB.out | apply below_alloc | apply pw_below_drewN | apply below_drew1) | exact HB.out)))); have n1_ := Aside0.mk (below_step (by repeat (first | (with_reducible first | exact HB.out | apply below_alloc | apply pw_below_drewN | apply below_drew1) | exact HB.out)) hb); clear HB; have HO103 := n0_; have HB := n1_; clear n0_ n1_; clear hb ho14; obtain ⟨Ao15, co15, eo15⟩ := Kd.S_slice HO103.out; subst eo15) | ((with_reducible refine gate_callee (f := 11) rfl ?_); refine goesL_ (some 10) rfl rfl Try.func11 (by kernel_rfl) rfl #[.slice Ao15 y101.length co15, .int .u64 2] rfl (by (try simp only [List.map_toArray, List.map_cons, List.map_nil]); first | done | rfl | (simp only [List.length_drop, List.length_take]; rfl)) ?_; (with_reducible refine (recover_Upto.calls _ _ y101 2 t104 _ ?side1 ?side2 A1.out).mono ?_); (case side1 => repeat (first | exact (Kd.S_reads' HO103.out).2.2 | (with_reducible refine Kd.C_alloc ?_ _) | (with_reducible refine Kd.C_drewN ?_ _) | (with_reducible refine Kd.C_drew ?_))); (case side2 => exact (Kd.S_reads' HO103.out).2.1); rintro e w16 ⟨v105, rfl, ho0, hb⟩; refine ⟨_, rfl, ?_⟩; have n0_ := Aside0.mk (Kd.S_elder' (by (with_reducible repeat (first | apply Kd.S_alloc | apply Kd.S_drewN | apply Kd.S_drew)); exact HO103.out) (Kd.S_base ho0) hb); have n1_ := Aside0.mk (Kd.S_lower (Kd.S_new' ho0 (Kd.S_lt (by (with_reducible repeat (first | apply Kd.S_alloc | apply Kd.S_drewN | apply Kd.S_drew)); exact HO103.out))) (below_size (by repeat (first | (with_reducible first | exact HB.out | apply below_alloc | apply pw_below_drewN | apply below_drew1) | exact HB.out)))); have n2_ := Aside0.mk (below_step (by repeat (first | (with_reducible first | exact HB.out | apply below_alloc | apply pw_below_drewN | apply below_drew1) | exact HB.out)) hb); clear HO103; clear HB; have HO103 := n0_; have HO106 := n1_; have HB := n2_; clear n0_ n1_ n2_; (try clear hb); (try clear hb2); (try clear hk); (try clear hi); (try clear ho0)) | ((with_reducible refine gate_callee (f := 12) rfl ?_); refine goesL_ (some 12) rfl rfl Try.func12 (by kernel_rfl) rfl #[.slice Ao15 y101.length co15, .int .u64 2, .int .u64 3] rfl (by (try simp only [List.map_toArray, List.map_cons, List.map_nil]); first | done | rfl | (simp only [List.length_drop, List.length_take]; rfl)) ?_; (with_reducible refine (recover_Changes.calls _ _ y101 2 3 t107 _ ?side1 ?side2 A2.out).mono ?_); (case side1 => repeat (first | exact (Kd.S_reads' HO103.out).2.2 | (with_reducible refine Kd.C_alloc ?_ _) | (with_reducible refine Kd.C_drewN ?_ _) | (with_reducible refine Kd.C_drew ?_))); (case side2 => exact (Kd.S_reads' HO103.out).2.1); rintro e w17 ⟨v108, rfl, ho0, hb⟩; refine ⟨_, rfl, ?_⟩; have n0_ := Aside0.mk (Kd.S_elder' (by (with_reducible repeat (first | apply Kd.S_alloc | apply Kd.S_drewN | apply Kd.S_drew)); exact HO103.out) (Kd.S_base ho0) hb); have n1_ := Aside0.mk (Kd.S_elder' (by (with_reducible repeat (first | apply Kd.S_alloc | apply Kd.S_drewN | apply Kd.S_drew)); exact HO106.out) (Kd.S_base ho0) hb); have n2_ := Aside0.mk (Kd.S_lower (Kd.S_new' (Kd.S_new' ho0 (Kd.S_lt (by (with_reducible repeat (first | apply Kd.S_alloc | apply Kd.S_drewN | apply Kd.S_drew)); exact HO103.out))) (Kd.S_lt (by (with_reducible repeat (first | apply Kd.S_alloc | apply Kd.S_drewN | apply Kd.S_drew)); exact HO106.out))) (below_size (by repeat (first | (with_reducible first | exact HB.out | apply below_alloc | apply pw_below_drewN | apply below_drew1) | exact HB.out)))); have n3_ := Aside0.mk (below_step (by repeat (first | (with_reducible first | exact HB.out | apply below_alloc | apply pw_below_drewN | apply below_drew1) | exact HB.out)) hb); clear HO103; clear HO106; clear HB; have HO103 := n0_; have HO106 := n1_; have HO109 := n2_; have HB := n3_; clear n0_ n1_ n2_ n3_; (try clear hb); (try clear hb2); (try clear hk); (try clear hi); (try clear ho0); obtain ⟨Ao18, co18, eo18⟩ := Kd.S_slice HO106.out; subst eo18; have p110 : 0 ≤ (0 : Int) := (by omega); have q110 : 0 < (t104.length : Int) := of_decide_eq_true (by first | (with_reducible assumption) | assumption); obtain ⟨ad110, A110_2, c110_2, e110, hx110_0, hx110_1, hx110_2, hx110_3, hl110_2, hi110_2⟩ := at_T34 (Kd.S_reads' HO106.out).2.2 0 p110 q110; cases e110; obtain ⟨ce110, hce110, hMe110, hcc110⟩ := Kd.S_get HO106.out z34 0 p110 (by first | exact q110 | exact of_decide_eq_true (by first | (with_reducible assumption) | assumption) | (have e_ := (Kd.S_reads' HO106.out).1; omega)); obtain ⟨ve110_2, rfl, ge110_2⟩ := k34_openM hMe110; have hv110_2 := hcc110 2 _ rfl; rw [add_field _ _ 2 (by omega)] at hv110_2; replace hv110_2 := Option.some.inj (hv110_2.symm.trans hx110_2); rw [hv110_2] at ge110_2; have HL110_2 := Aside0.mk (show Kd.R k36 36 _ _ _ _ ((rd_T34 t104 0).f1) from ge110_2); clear hv110_2 ge110_2; clear hcc110 hce110; have qi110 : (0 < t104.length) = True := eq_true (by omega); (try rw [show ((0 : Int)).toNat = 0 from rfl] at hx110_0); (try rw [show 0 * 4 = 0 from rfl] at hx110_0); (try rw [Addr.add_zero'] at hx110_0); (try rw [show ((0 : Int)).toNat = 0 from rfl] at hx110_1); (try rw [show 0 * 4 = 0 from rfl] at hx110_1); (try rw [Addr.add_zero'] at hx110_1); (try rw [show ((0 : Int)).toNat = 0 from rfl] at hx110_2); (try rw [show 0 * 4 = 0 from rfl] at hx110_2); (try rw [Addr.add_zero'] at hx110_2); (try rw [show ((0 : Int)).toNat = 0 from rfl] at hx110_3); (try rw [show 0 * 4 = 0 from rfl] at hx110_3); (try rw [Addr.add_zero'] at hx110_3); have HR110_2 := Aside0.mk hi110_2; have HC110_2 := Aside0.mk hl110_2; clear hi110_2 hl110_2; replace p110 := eq_true p110; replace q110 := eq_true q110; have p111 : 0 ≤ (0 : Int) := (by omega); have q111 : 0 < (t104.length : Int) := of_decide_eq_true (by first | (with_reducible assumption) | assumption); obtain ⟨ad111, A111_2, c111_2, e111, hx111_0, hx111_1, hx111_2, hx111_3, hl111_2, hi111_2⟩ := at_T34 (Kd.S_reads' HO106.out).2.2 0 p111 q111; obtain rfl : ad110 = ad111 := (by injection e111); obtain ⟨ce111, hce111, hMe111, hcc111⟩ := Kd.S_get HO106.out z34 0 p111 (by first | exact q111 | exact of_decide_eq_true (by first | (with_reducible assumption) | assumption) | (have e_ := (Kd.S_reads' HO106.out).1; omega)); obtain ⟨ve111_2, rfl, ge111_2⟩ := k34_openM hMe111; have hv111_2 := hcc111 2 _ rfl; rw [add_field _ _ 2 (by omega)] at hv111_2; replace hv111_2 := Option.some.inj (hv111_2.symm.trans hx111_2); rw [hv111_2] at ge111_2; have HL111_2 := Aside0.mk (show Kd.R k36 36 _ _ _ _ ((rd_T34 t104 0).f1) from ge111_2); clear hv111_2 ge111_2; clear hcc111 hce111; have qi111 : (0 < t104.length) = True := eq_true (by omega); (try rw [show ((0 : Int)).toNat = 0 from rfl] at hx111_0); (try rw [show 0 * 4 = 0 from rfl] at hx111_0); (try rw [Addr.add_zero'] at hx111_0); (try rw [show ((0 : Int)).toNat = 0 from rfl] at hx111_1); (try rw [show 0 * 4 = 0 from rfl] at hx111_1); (try rw [Addr.add_zero'] at hx111_1); (try rw [show ((0 : Int)).toNat = 0 from rfl] at hx111_2); (try rw [show 0 * 4 = 0 from rfl] at hx111_2); (try rw [Addr.add_zero'] at hx111_2); (try rw [show ((0 : Int)).toNat = 0 from rfl] at hx111_3); (try rw [show 0 * 4 = 0 from rfl] at hx111_3); (try rw [Addr.add_zero'] at hx111_3); have HR111_2 := Aside0.mk hi111_2; have HC111_2 := Aside0.mk hl111_2; clear hi111_2 hl111_2; replace p111 := eq_true p111; replace q111 := eq_true q111; have ea_ := Option.some.inj (hx110_2.symm.trans hx111_2); injection ea_ with ea_ en_ ec_; subst ea_; subst ec_; clear en_; obtain ⟨Ao19, co19, eo19⟩ := Kd.S_slice HO109.out; subst eo19; have p112 : 0 ≤ (0 : Int) := (by omega); have q112 : 0 < (t107.length : Int) := of_decide_eq_true (by first | (with_reducible assumption) | assumption); obtain ⟨ad112, A112_2, c112_2, e112, hx112_0, hx112_1, hx112_2, hx112_3, hl112_2, hi112_2⟩ := at_T34 (Kd.S_reads' HO109.out).2.2 0 p112 q112; cases e112; obtain ⟨ce112, hce112, hMe112, hcc112⟩ := Kd.S_get HO109.out z34 0 p112 (by first | exact q112 | exact of_decide_eq_true (by first | (with_reducible assumption) | assumption) | (have e_ := (Kd.S_reads' HO109.out).1; omega)); obtain ⟨ve112_2, rfl, ge112_2⟩ := k34_openM hMe112; have hv112_2 := hcc112 2 _ rfl; rw [add_field _ _ 2 (by omega)] at hv112_2; replace hv112_2 := Option.some.inj (hv112_2.symm.trans hx112_2); rw [hv112_2] at ge112_2; have HL112_2 := Aside0.mk (show Kd.R k36 36 _ _ _ _ ((rd_T34 t107 0).f1) from ge112_2); clear hv112_2 ge112_2; clear hcc112 hce112; have qi112 : (0 < t107.length) = True := eq_true (by omega); (try rw [show ((0 : Int)).toNat = 0 from rfl] at hx112_0); (try rw [show 0 * 4 = 0 from rfl] at hx112_0); (try rw [Addr.add_zero'] at hx112_0); (try rw [show ((0 : Int)).toNat = 0 from rfl] at hx112_1); (try rw [show 0 * 4 = 0 from rfl] at hx112_1); (try rw [Addr.add_zero'] at hx112_1); (try rw [show ((0 : Int)).toNat = 0 from rfl] at hx112_2); (try rw [show 0 * 4 = 0 from rfl] at hx112_2); (try rw [Addr.add_zero'] at hx112_2); (try rw [show ((0 : Int)).toNat = 0 from rfl] at hx112_3); (try rw [show 0 * 4 = 0 from rfl] at hx112_3); (try rw [Addr.add_zero'] at hx112_3); have HR112_2 := Aside0.mk hi112_2; have HC112_2 := Aside0.mk hl112_2; clear hi112_2 hl112_2; replace p112 := eq_true p112; replace q112 := eq_true q112) | (go_at_call 17; (with_reducible refine (recover_Merged.calls _ _ t104 _ _ t107 t113 _ ?side1 ?side2 ?side3 ?side4 A10.out).mono ?_); (case side1 => repeat (first | exact (Kd.S_reads' HO106.out).2.2 | (with_reducible refine Kd.C_alloc ?_ _) | (with_reducible refine Kd.C_drewN ?_ _) | (with_reducible refine Kd.C_drew ?_))); (case side2 => exact (Kd.S_reads' HO106.out).2.1); (case side3 => repeat (first | exact (Kd.S_reads' HO109.out).2.2 | (with_reducible refine Kd.C_alloc ?_ _) | (with_reducible refine Kd.C_drewN ?_ _) | (with_reducible refine Kd.C_drew ?_))); (case side4 => exact (Kd.S_reads' HO109.out).2.1); rintro e w20 ⟨v114, rfl, ho0, hb⟩; have n0_ := Aside0.mk (Kd.S_elder' (by (with_reducible repeat (first | apply Kd.S_alloc | apply Kd.S_drewN | apply Kd.S_drew)); exact HO103.out) (Kd.S_base ho0) hb); have n1_ := Aside0.mk (Kd.S_elder' (by (with_reducible repeat (first | apply Kd.S_alloc | apply Kd.S_drewN | apply Kd.S_drew)); exact HO106.out) (Kd.S_base ho0) hb); have n2_ := Aside0.mk (Kd.S_elder' (by (with_reducible repeat (first | apply Kd.S_alloc | apply Kd.S_drewN | apply Kd.S_drew)); exact HO109.out) (Kd.S_base ho0) hb); have n3_ := Aside0.mk (Kd.R_below (by (with_reducible repeat (first | apply Kd.R_alloc | apply Kd.R_drewN | apply Kd.R_drew)); exact HL110_2.out) hb); have n4_ := Aside0.mk (Kd.R_below (by (with_reducible repeat (first | apply Kd.R_alloc | apply Kd.R_drewN | apply Kd.R_drew)); exact HL111_2.out) hb); have n5_ := Aside0.mk (Kd.R_below (by (with_reducible repeat (first | apply Kd.R_alloc | apply Kd.R_drewN | apply Kd.R_drew)); exact HL112_2.out) hb); have n6_ := Aside0.mk (Kd.S_lower (Kd.S_new' (Kd.S_new' (Kd.S_new' (Kd.S_new' (Kd.S_new' (Kd.S_new' ho0 (Kd.S_lt (by (with_reducible repeat (first | apply Kd.S_alloc | apply Kd.S_drewN | apply Kd.S_drew)); exact HO103.out))) (Kd.S_lt (by (with_reducible repeat (first | apply Kd.S_alloc | apply Kd.S_drewN | apply Kd.S_drew)); exact HO106.out))) (Kd.S_lt (by (with_reducible repeat (first | apply Kd.S_alloc | apply Kd.S_drewN | apply Kd.S_drew)); exact HO109.out))) (Kd.R_lt (by (with_reducible repeat (first | apply Kd.R_alloc | apply Kd.R_drewN | apply Kd.R_drew)); exact HL110_2.out))) (Kd.R_lt (by (with_reducible repeat (first | apply Kd.R_alloc | apply Kd.R_drewN | apply Kd.R_drew)); exact HL111_2.out))) (Kd.R_lt (by (with_reducible repeat (first | apply Kd.R_alloc | apply Kd.R_drewN | apply Kd.R_drew)); exact HL112_2.out))) (below_size (by repeat (first | (with_reducible first | exact HB.out | apply below_alloc | apply pw_below_drewN | apply below_drew1) | exact HB.out)))); have n7_ := Aside0.mk (Kd.C_below (by repeat (first | (with_reducible exact HR110_2.out) | (with_reducible refine Kd.C_alloc ?_ _) | (with_reducible refine Kd.C_drewN ?_ _) | (with_reducible refine Kd.C_drew ?_) | exact HR110_2.out)) hb); have n8_ := Aside0.mk (Kd.C_below (by repeat (first | (with_reducible exact HR111_2.out) | (with_reducible refine Kd.C_alloc ?_ _) | (with_reducible refine Kd.C_drewN ?_ _) | (with_reducible refine Kd.C_drew ?_) | exact HR111_2.out)) hb); have n9_ := Aside0.mk (Kd.C_below (by repeat (first | (with_reducible exact HR112_2.out) | (with_reducible refine Kd.C_alloc ?_ _) | (with_reducible refine Kd.C_drewN ?_ _) | (with_reducible refine Kd.C_drew ?_) | exact HR112_2.out)) hb); have n10_ := Aside0.mk (below_step (by repeat (first | (with_reducible first | exact HB.out | apply below_alloc | apply pw_below_drewN | apply below_drew1) | exact HB.out)) hb); clear HO103; clear HO106; clear HO109; clear HL110_2; clear HL111_2; clear HL112_2; clear HR110_2; clear HR111_2; clear HR112_2; clear HB; have HO103 := n0_; have HO106 := n1_; have HO109 := n2_; have HL110_2 := n3_; have HL111_2 := n4_; have HL112_2 := n5_; have HO115 := n6_; have HR110_2 := n7_; have HR111_2 := n8_; have HR112_2 := n9_; have HB := n10_; clear n0_ n1_ n2_ n3_ n4_ n5_ n6_ n7_ n8_ n9_ n10_; (try clear hb); (try clear hb2); (try clear hk); (try clear hi); (try clear ho0); obtain ⟨Ao21, co21, eo21⟩ := Kd.S_slice HO115.out; subst eo21) | ((with_reducible refine gate_dst (N := 52) rfl ?_); (try (refine gate_guard (by rfl) ?_; dsimp only)); refine Kd.R_lit k50 _ 50 ?hg (N := 52) ?hd (xs := ([(⟨1, 0⟩ : S50)] : List (S50))) (inner := [.int .i64 1, .int .i64 0]) (ok := fun _ => True) (okp := fun _ => True) ?hr ?hp (fun _ hk => hk) trivial (Below.refl _ _) (Nat.le_refl _) (by simp) ?_; (case hd => rfl); (case hg => rfl); (case hr => first | (go_simp; done) | (go_simp; rfl)); (case hp => exact (Reps.c2 (show Kd.M k50 _ _ _ (⟨1, 0⟩ : S50) [.int .i64 1, .int .i64 0] from (k50_mkM _ _ _ (⟨1, 0⟩ : S50) )) (Reps.none _ _))); intro v117 w22 ho23 hb hg_ hnew_; clear hg_ hnew_; (first | rw [← Ny116.out] at ho23 | (simp only [Int.reduceToNat] at ho23; rw [← Ny116.out] at ho23)); have n0_ := Aside0.mk (Kd.S_below (by (with_reducible repeat (first | apply Kd.S_alloc | apply Kd.S_drewN | apply Kd.S_drew)); exact HO103.out) hb); have n1_ := Aside0.mk (Kd.S_below (by (with_reducible repeat (first | apply Kd.S_alloc | apply Kd.S_drewN | apply Kd.S_drew)); exact HO106.out) hb); have n2_ := Aside0.mk (Kd.S_below (by (with_reducible repeat (first | apply Kd.S_alloc | apply Kd.S_drewN | apply Kd.S_drew)); exact HO109.out) hb); have n3_ := Aside0.mk (Kd.R_below (by (with_reducible repeat (first | apply Kd.R_alloc | apply Kd.R_drewN | apply Kd.R_drew)); exact HL110_2.out) hb); have n4_ := Aside0.mk (Kd.R_below (by (with_reducible repeat (first | apply Kd.R_alloc | apply Kd.R_drewN | apply Kd.R_drew)); exact HL111_2.out) hb); have n5_ := Aside0.mk (Kd.R_below (by (with_reducible repeat (first | apply Kd.R_alloc | apply Kd.R_drewN | apply Kd.R_drew)); exact HL112_2.out) hb); have n6_ := Aside0.mk (Kd.S_below (by (with_reducible repeat (first | apply Kd.S_alloc | apply Kd.S_drewN | apply Kd.S_drew)); exact HO115.out) hb); have n7_ := Aside0.mk (Kd.R_lower ho23 (below_size (by repeat (first | (with_reducible first | exact HB.out | apply below_alloc | apply pw_below_drewN | apply below_drew1) | exact HB.out)))); have n8_ := Aside0.mk (Kd.C_below (by repeat (first | (with_reducible exact HR110_2.out) | (with_reducible refine Kd.C_alloc ?_ _) | (with_reducible refine Kd.C_drewN ?_ _) | (with_reducible refine Kd.C_drew ?_) | exact HR110_2.out)) hb); have n9_ := Aside0.mk (Kd.C_below (by repeat (first | (with_reducible exact HR111_2.out) | (with_reducible refine Kd.C_alloc ?_ _) | (with_reducible refine Kd.C_drewN ?_ _) | (with_reducible refine Kd.C_drew ?_) | exact HR111_2.out)) hb); have n10_ := Aside0.mk (Kd.C_below (by repeat (first | (with_reducible exact HR112_2.out) | (with_reducible refine Kd.C_alloc ?_ _) | (with_reducible refine Kd.C_drewN ?_ _) | (with_reducible refine Kd.C_drew ?_) | exact HR112_2.out)) hb); have n11_ := Aside0.mk (below_step (by repeat (first | (with_reducible first | exact HB.out | apply below_alloc | apply pw_below_drewN | apply below_drew1) | exact HB.out)) hb); clear HO103; clear HO106; clear HO109; clear HL110_2; clear HL111_2; clear HL112_2; clear HO115; clear HR110_2; clear HR111_2; clear HR112_2; clear HB; have HO103 := n0_; have HO106 := n1_; have HO109 := n2_; have HL110_2 := n3_; have HL111_2 := n4_; have HL112_2 := n5_; have HO115 := n6_; have HO118 := n7_; have HR110_2 := n8_; have HR111_2 := n9_; have HR112_2 := n10_; have HB := n11_; clear n0_ n1_ n2_ n3_ n4_ n5_ n6_ n7_ n8_ n9_ n10_ n11_; clear hb ho23; obtain ⟨Ao24, co24, eo24⟩ := Kd.R_slice HO118.out; subst eo24) | (go_at_call 23; (refine (recover_Missing.calls _ _ y116 _ _ ([] : List (S66)) t119 _ ?side1 ?side2 ?side3 ?side4 A12.out).mono ?_); (case side1 => repeat (first | exact (Kd.R_reads' HO118.out).2.2 | (with_reducible refine Kd.C_alloc ?_ _) | (with_reducible refine Kd.C_drewN ?_ _) | (with_reducible refine Kd.C_drew ?_))); (case side2 => exact (Kd.R_reads' HO118.out).2.1); (case side3 => exact Kd.C_nil _ _); (case side4 => exact Nat.le_refl _); rintro e w25 ⟨v120, rfl, ho0, hb⟩; have n0_ := Aside0.mk (Kd.S_below (by (with_reducible repeat (first | apply Kd.S_alloc | apply Kd.S_drewN | apply Kd.S_drew)); exact HO103.out) hb); have n1_ := Aside0.mk (Kd.S_below (by (with_reducible repeat (first | apply Kd.S_alloc | apply Kd.S_drewN | apply Kd.S_drew)); exact HO106.out) hb); have n2_ := Aside0.mk (Kd.S_below (by (with_reducible repeat (first | apply Kd.S_alloc | apply Kd.S_drewN | apply Kd.S_drew)); exact HO109.out) hb); have n3_ := Aside0.mk (Kd.R_below (by (with_reducible repeat (first | apply Kd.R_alloc | apply Kd.R_drewN | apply Kd.R_drew)); exact HL110_2.out) hb); have n4_ := Aside0.mk (Kd.R_below (by (with_reducible repeat (first | apply Kd.R_alloc | apply Kd.R_drewN | apply Kd.R_drew)); exact HL111_2.out) hb); have n5_ := Aside0.mk (Kd.R_below (by (with_reducible repeat (first | apply Kd.R_alloc | apply Kd.R_drewN | apply Kd.R_drew)); exact HL112_2.out) hb); have n6_ := Aside0.mk (Kd.S_below (by (with_reducible repeat (first | apply Kd.S_alloc | apply Kd.S_drewN | apply Kd.S_drew)); exact HO115.out) hb); have n7_ := Aside0.mk (Kd.R_elder' (by (with_reducible repeat (first | apply Kd.R_alloc | apply Kd.R_drewN | apply Kd.R_drew)); exact HO118.out) (Kd.R_base ho0) hb); have n8_ := Aside0.mk (Kd.R_lower (Kd.R_new' ho0 (Kd.R_lt (by (with_reducible repeat (first | apply Kd.R_alloc | apply Kd.R_drewN | apply Kd.R_drew)); exact HO118.out))) (below_size (by repeat (first | (with_reducible first | exact HB.out | apply below_alloc | apply pw_below_drewN | apply below_drew1) | exact HB.out)))); have n9_ := Aside0.mk (Kd.C_below (by repeat (first | (with_reducible exact HR110_2.out) | (with_reducible refine Kd.C_alloc ?_ _) | (with_reducible refine Kd.C_drewN ?_ _) | (with_reducible refine Kd.C_drew ?_) | exact HR110_2.out)) hb); have n10_ := Aside0.mk (Kd.C_below (by repeat (first | (with_reducible exact HR111_2.out) | (with_reducible refine Kd.C_alloc ?_ _) | (with_reducible refine Kd.C_drewN ?_ _) | (with_reducible refine Kd.C_drew ?_) | exact HR111_2.out)) hb); have n11_ := Aside0.mk (Kd.C_below (by repeat (first | (with_reducible exact HR112_2.out) | (with_reducible refine Kd.C_alloc ?_ _) | (with_reducible refine Kd.C_drewN ?_ _) | (with_reducible refine Kd.C_drew ?_) | exact HR112_2.out)) hb); have n12_ := Aside0.mk (below_step (by repeat (first | (with_reducible first | exact HB.out | apply below_alloc | apply pw_below_drewN | apply below_drew1) | exact HB.out)) hb); clear HO103; clear HO106; clear HO109; clear HL110_2; clear HL111_2; clear HL112_2; clear HO115; clear HO118; clear HR110_2; clear HR111_2; clear HR112_2; clear HB; have HO103 := n0_; have HO106 := n1_; have HO109 := n2_; have HL110_2 := n3_; have HL111_2 := n4_; have HL112_2 := n5_; have HO115 := n6_; have HO118 := n7_; have HO121 := n8_; have HR110_2 := n9_; have HR111_2 := n10_; have HR112_2 := n11_; have HB := n12_; clear n0_ n1_ n2_ n3_ n4_ n5_ n6_ n7_ n8_ n9_ n10_ n11_ n12_; (try clear hb); (try clear hb2); (try clear hk); (try clear hi); (try clear ho0); obtain ⟨Ao26, co26, eo26⟩ := Kd.R_slice HO121.out; subst eo26))
                  go_ret
                  exact ⟨by first | rfl | (simp [errW_none, errW_some] <;> rfl) | (simp [*, errW_none, errW_some] <;> rfl), by repeat (first | (with_reducible first | exact HB.out | apply below_alloc | apply pw_below_drewN | apply below_drew1) | exact HB.out)⟩
                · rw [if_neg c11] at H
                  have c11b0 : ((t113.length : Int) == 2) = false := beq_eq_false_iff_ne.mpr c11
                  have c11b1 : ((t113.length : Int) != 2) = true := bne_iff_ne.mpr c11
                  obtain rfl := Option.some.inj H
                  go_enter Try.func13, Try.ntmps13
                  go_wp2_with (first | ((with_reducible refine gate_dst (N := 8) rfl ?_); (try (refine gate_guard (by rfl) ?_; dsimp only)); refine Kd.S_lit k34 _ 34 ?hg (N := 8) ?hd (xs := ([(⟨(⟨2, 0⟩ : S31), ([] : List (S36)), 0⟩ : S34), (⟨(⟨1, 0⟩ : S31), ([] : List (S36)), 3⟩ : S34)] : List (S34))) (inner := [.int .u64 2, .int .u32 0, .slice none 0 0, .int .u64 0, .int .u64 1, .int .u32 0, .slice none 0 0, .int .u64 3]) (ok := fun _ => True) (okp := fun _ => True) ?hr ?hp (fun _ hk => hk) trivial (Below.refl _ _) (Nat.le_refl _) (by simp) ?_; (case hd => rfl); (case hg => rfl); (case hr => first | (go_simp; done) | (go_simp; rfl)); (case hp => exact (Reps.c4 (show Kd.M k34 _ _ _ (⟨(⟨2, 0⟩ : S31), ([] : List (S36)), 0⟩ : S34) [.int .u64 2, .int .u32 0, .slice none 0 0, .int .u64 0] from (k34_mkM _ _ _ (⟨(⟨2, 0⟩ : S31), ([] : List (S36)), 0⟩ : S34) (Kd.R_nil _ _ _ _ _))) (Reps.c4 (show Kd.M k34 _ _ _ (⟨(⟨1, 0⟩ : S31), ([] : List (S36)), 3⟩ : S34) [.int .u64 1, .int .u32 0, .slice none 0 0, .int .u64 3] from (k34_mkM _ _ _ (⟨(⟨1, 0⟩ : S31), ([] : List (S36)), 3⟩ : S34) (Kd.R_nil _ _ _ _ _))) (Reps.none _ _)))); intro v102 w27 ho28 hb hg_ hnew_; clear hg_ hnew_; (first | rw [← Ny101.out] at ho28 | (simp only [Int.reduceToNat] at ho28; rw [← Ny101.out] at ho28)); have n0_ := Aside0.mk (Kd.S_lower ho28 (below_size (by repeat (first | (with_reducible first | exact HB.out | apply below_alloc | apply pw_below_drewN | apply below_drew1) | exact HB.out)))); have n1_ := Aside0.mk (below_step (by repeat (first | (with_reducible first | exact HB.out | apply below_alloc | apply pw_below_drewN | apply below_drew1) | exact HB.out)) hb); clear HB; have HO103 := n0_; have HB := n1_; clear n0_ n1_; clear hb ho28; obtain ⟨Ao29, co29, eo29⟩ := Kd.S_slice HO103.out; subst eo29) | ((with_reducible refine gate_callee (f := 11) rfl ?_); refine goesL_ (some 10) rfl rfl Try.func11 (by kernel_rfl) rfl #[.slice Ao29 y101.length co29, .int .u64 2] rfl (by (try simp only [List.map_toArray, List.map_cons, List.map_nil]); first | done | rfl | (simp only [List.length_drop, List.length_take]; rfl)) ?_; (with_reducible refine (recover_Upto.calls _ _ y101 2 t104 _ ?side1 ?side2 A1.out).mono ?_); (case side1 => repeat (first | exact (Kd.S_reads' HO103.out).2.2 | (with_reducible refine Kd.C_alloc ?_ _) | (with_reducible refine Kd.C_drewN ?_ _) | (with_reducible refine Kd.C_drew ?_))); (case side2 => exact (Kd.S_reads' HO103.out).2.1); rintro e w30 ⟨v105, rfl, ho0, hb⟩; refine ⟨_, rfl, ?_⟩; have n0_ := Aside0.mk (Kd.S_elder' (by (with_reducible repeat (first | apply Kd.S_alloc | apply Kd.S_drewN | apply Kd.S_drew)); exact HO103.out) (Kd.S_base ho0) hb); have n1_ := Aside0.mk (Kd.S_lower (Kd.S_new' ho0 (Kd.S_lt (by (with_reducible repeat (first | apply Kd.S_alloc | apply Kd.S_drewN | apply Kd.S_drew)); exact HO103.out))) (below_size (by repeat (first | (with_reducible first | exact HB.out | apply below_alloc | apply pw_below_drewN | apply below_drew1) | exact HB.out)))); have n2_ := Aside0.mk (below_step (by repeat (first | (with_reducible first | exact HB.out | apply below_alloc | apply pw_below_drewN | apply below_drew1) | exact HB.out)) hb); clear HO103; clear HB; have HO103 := n0_; have HO106 := n1_; have HB := n2_; clear n0_ n1_ n2_; (try clear hb); (try clear hb2); (try clear hk); (try clear hi); (try clear ho0)) | ((with_reducible refine gate_callee (f := 12) rfl ?_); refine goesL_ (some 12) rfl rfl Try.func12 (by kernel_rfl) rfl #[.slice Ao29 y101.length co29, .int .u64 2, .int .u64 3] rfl (by (try simp only [List.map_toArray, List.map_cons, List.map_nil]); first | done | rfl | (simp only [List.length_drop, List.length_take]; rfl)) ?_; (with_reducible refine (recover_Changes.calls _ _ y101 2 3 t107 _ ?side1 ?side2 A2.out).mono ?_); (case side1 => repeat (first | exact (Kd.S_reads' HO103.out).2.2 | (with_reducible refine Kd.C_alloc ?_ _) | (with_reducible refine Kd.C_drewN ?_ _) | (with_reducible refine Kd.C_drew ?_))); (case side2 => exact (Kd.S_reads' HO103.out).2.1); rintro e w31 ⟨v108, rfl, ho0, hb⟩; refine ⟨_, rfl, ?_⟩; have n0_ := Aside0.mk (Kd.S_elder' (by (with_reducible repeat (first | apply Kd.S_alloc | apply Kd.S_drewN | apply Kd.S_drew)); exact HO103.out) (Kd.S_base ho0) hb); have n1_ := Aside0.mk (Kd.S_elder' (by (with_reducible repeat (first | apply Kd.S_alloc | apply Kd.S_drewN | apply Kd.S_drew)); exact HO106.out) (Kd.S_base ho0) hb); have n2_ := Aside0.mk (Kd.S_lower (Kd.S_new' (Kd.S_new' ho0 (Kd.S_lt (by (with_reducible repeat (first | apply Kd.S_alloc | apply Kd.S_drewN | apply Kd.S_drew)); exact HO103.out))) (Kd.S_lt (by (with_reducible repeat (first | apply Kd.S_alloc | apply Kd.S_drewN | apply Kd.S_drew)); exact HO106.out))) (below_size (by repeat (first | (with_reducible first | exact HB.out | apply below_alloc | apply pw_below_drewN | apply below_drew1) | exact HB.out)))); have n3_ := Aside0.mk (below_step (by repeat (first | (with_reducible first | exact HB.out | apply below_alloc | apply pw_below_drewN | apply below_drew1) | exact HB.out)) hb); clear HO103; clear HO106; clear HB; have HO103 := n0_; have HO106 := n1_; have HO109 := n2_; have HB := n3_; clear n0_ n1_ n2_ n3_; (try clear hb); (try clear hb2); (try clear hk); (try clear hi); (try clear ho0); obtain ⟨Ao32, co32, eo32⟩ := Kd.S_slice HO106.out; subst eo32; have p110 : 0 ≤ (0 : Int) := (by omega); have q110 : 0 < (t104.length : Int) := of_decide_eq_true (by first | (with_reducible assumption) | assumption); obtain ⟨ad110, A110_2, c110_2, e110, hx110_0, hx110_1, hx110_2, hx110_3, hl110_2, hi110_2⟩ := at_T34 (Kd.S_reads' HO106.out).2.2 0 p110 q110; cases e110; obtain ⟨ce110, hce110, hMe110, hcc110⟩ := Kd.S_get HO106.out z34 0 p110 (by first | exact q110 | exact of_decide_eq_true (by first | (with_reducible assumption) | assumption) | (have e_ := (Kd.S_reads' HO106.out).1; omega)); obtain ⟨ve110_2, rfl, ge110_2⟩ := k34_openM hMe110; have hv110_2 := hcc110 2 _ rfl; rw [add_field _ _ 2 (by omega)] at hv110_2; replace hv110_2 := Option.some.inj (hv110_2.symm.trans hx110_2); rw [hv110_2] at ge110_2; have HL110_2 := Aside0.mk (show Kd.R k36 36 _ _ _ _ ((rd_T34 t104 0).f1) from ge110_2); clear hv110_2 ge110_2; clear hcc110 hce110; have qi110 : (0 < t104.length) = True := eq_true (by omega); (try rw [show ((0 : Int)).toNat = 0 from rfl] at hx110_0); (try rw [show 0 * 4 = 0 from rfl] at hx110_0); (try rw [Addr.add_zero'] at hx110_0); (try rw [show ((0 : Int)).toNat = 0 from rfl] at hx110_1); (try rw [show 0 * 4 = 0 from rfl] at hx110_1); (try rw [Addr.add_zero'] at hx110_1); (try rw [show ((0 : Int)).toNat = 0 from rfl] at hx110_2); (try rw [show 0 * 4 = 0 from rfl] at hx110_2); (try rw [Addr.add_zero'] at hx110_2); (try rw [show ((0 : Int)).toNat = 0 from rfl] at hx110_3); (try rw [show 0 * 4 = 0 from rfl] at hx110_3); (try rw [Addr.add_zero'] at hx110_3); have HR110_2 := Aside0.mk hi110_2; have HC110_2 := Aside0.mk hl110_2; clear hi110_2 hl110_2; replace p110 := eq_true p110; replace q110 := eq_true q110; have p111 : 0 ≤ (0 : Int) := (by omega); have q111 : 0 < (t104.length : Int) := of_decide_eq_true (by first | (with_reducible assumption) | assumption); obtain ⟨ad111, A111_2, c111_2, e111, hx111_0, hx111_1, hx111_2, hx111_3, hl111_2, hi111_2⟩ := at_T34 (Kd.S_reads' HO106.out).2.2 0 p111 q111; obtain rfl : ad110 = ad111 := (by injection e111); obtain ⟨ce111, hce111, hMe111, hcc111⟩ := Kd.S_get HO106.out z34 0 p111 (by first | exact q111 | exact of_decide_eq_true (by first | (with_reducible assumption) | assumption) | (have e_ := (Kd.S_reads' HO106.out).1; omega)); obtain ⟨ve111_2, rfl, ge111_2⟩ := k34_openM hMe111; have hv111_2 := hcc111 2 _ rfl; rw [add_field _ _ 2 (by omega)] at hv111_2; replace hv111_2 := Option.some.inj (hv111_2.symm.trans hx111_2); rw [hv111_2] at ge111_2; have HL111_2 := Aside0.mk (show Kd.R k36 36 _ _ _ _ ((rd_T34 t104 0).f1) from ge111_2); clear hv111_2 ge111_2; clear hcc111 hce111; have qi111 : (0 < t104.length) = True := eq_true (by omega); (try rw [show ((0 : Int)).toNat = 0 from rfl] at hx111_0); (try rw [show 0 * 4 = 0 from rfl] at hx111_0); (try rw [Addr.add_zero'] at hx111_0); (try rw [show ((0 : Int)).toNat = 0 from rfl] at hx111_1); (try rw [show 0 * 4 = 0 from rfl] at hx111_1); (try rw [Addr.add_zero'] at hx111_1); (try rw [show ((0 : Int)).toNat = 0 from rfl] at hx111_2); (try rw [show 0 * 4 = 0 from rfl] at hx111_2); (try rw [Addr.add_zero'] at hx111_2); (try rw [show ((0 : Int)).toNat = 0 from rfl] at hx111_3); (try rw [show 0 * 4 = 0 from rfl] at hx111_3); (try rw [Addr.add_zero'] at hx111_3); have HR111_2 := Aside0.mk hi111_2; have HC111_2 := Aside0.mk hl111_2; clear hi111_2 hl111_2; replace p111 := eq_true p111; replace q111 := eq_true q111; have ea_ := Option.some.inj (hx110_2.symm.trans hx111_2); injection ea_ with ea_ en_ ec_; subst ea_; subst ec_; clear en_; obtain ⟨Ao33, co33, eo33⟩ := Kd.S_slice HO109.out; subst eo33; have p112 : 0 ≤ (0 : Int) := (by omega); have q112 : 0 < (t107.length : Int) := of_decide_eq_true (by first | (with_reducible assumption) | assumption); obtain ⟨ad112, A112_2, c112_2, e112, hx112_0, hx112_1, hx112_2, hx112_3, hl112_2, hi112_2⟩ := at_T34 (Kd.S_reads' HO109.out).2.2 0 p112 q112; cases e112; obtain ⟨ce112, hce112, hMe112, hcc112⟩ := Kd.S_get HO109.out z34 0 p112 (by first | exact q112 | exact of_decide_eq_true (by first | (with_reducible assumption) | assumption) | (have e_ := (Kd.S_reads' HO109.out).1; omega)); obtain ⟨ve112_2, rfl, ge112_2⟩ := k34_openM hMe112; have hv112_2 := hcc112 2 _ rfl; rw [add_field _ _ 2 (by omega)] at hv112_2; replace hv112_2 := Option.some.inj (hv112_2.symm.trans hx112_2); rw [hv112_2] at ge112_2; have HL112_2 := Aside0.mk (show Kd.R k36 36 _ _ _ _ ((rd_T34 t107 0).f1) from ge112_2); clear hv112_2 ge112_2; clear hcc112 hce112; have qi112 : (0 < t107.length) = True := eq_true (by omega); (try rw [show ((0 : Int)).toNat = 0 from rfl] at hx112_0); (try rw [show 0 * 4 = 0 from rfl] at hx112_0); (try rw [Addr.add_zero'] at hx112_0); (try rw [show ((0 : Int)).toNat = 0 from rfl] at hx112_1); (try rw [show 0 * 4 = 0 from rfl] at hx112_1); (try rw [Addr.add_zero'] at hx112_1); (try rw [show ((0 : Int)).toNat = 0 from rfl] at hx112_2); (try rw [show 0 * 4 = 0 from rfl] at hx112_2); (try rw [Addr.add_zero'] at hx112_2); (try rw [show ((0 : Int)).toNat = 0 from rfl] at hx112_3); (try rw [show 0 * 4 = 0 from rfl] at hx112_3); (try rw [Addr.add_zero'] at hx112_3); have HR112_2 := Aside0.mk hi112_2; have HC112_2 := Aside0.mk hl112_2; clear hi112_2 hl112_2; replace p112 := eq_true p112; replace q112 := eq_true q112) | (go_at_call 17; (with_reducible refine (recover_Merged.calls _ _ t104 _ _ t107 t113 _ ?side1 ?side2 ?side3 ?side4 A10.out).mono ?_); (case side1 => repeat (first | exact (Kd.S_reads' HO106.out).2.2 | (with_reducible refine Kd.C_alloc ?_ _) | (with_reducible refine Kd.C_drewN ?_ _) | (with_reducible refine Kd.C_drew ?_))); (case side2 => exact (Kd.S_reads' HO106.out).2.1); (case side3 => repeat (first | exact (Kd.S_reads' HO109.out).2.2 | (with_reducible refine Kd.C_alloc ?_ _) | (with_reducible refine Kd.C_drewN ?_ _) | (with_reducible refine Kd.C_drew ?_))); (case side4 => exact (Kd.S_reads' HO109.out).2.1); rintro e w34 ⟨v114, rfl, ho0, hb⟩; have n0_ := Aside0.mk (Kd.S_elder' (by (with_reducible repeat (first | apply Kd.S_alloc | apply Kd.S_drewN | apply Kd.S_drew)); exact HO103.out) (Kd.S_base ho0) hb); have n1_ := Aside0.mk (Kd.S_elder' (by (with_reducible repeat (first | apply Kd.S_alloc | apply Kd.S_drewN | apply Kd.S_drew)); exact HO106.out) (Kd.S_base ho0) hb); have n2_ := Aside0.mk (Kd.S_elder' (by (with_reducible repeat (first | apply Kd.S_alloc | apply Kd.S_drewN | apply Kd.S_drew)); exact HO109.out) (Kd.S_base ho0) hb); have n3_ := Aside0.mk (Kd.R_below (by (with_reducible repeat (first | apply Kd.R_alloc | apply Kd.R_drewN | apply Kd.R_drew)); exact HL110_2.out) hb); have n4_ := Aside0.mk (Kd.R_below (by (with_reducible repeat (first | apply Kd.R_alloc | apply Kd.R_drewN | apply Kd.R_drew)); exact HL111_2.out) hb); have n5_ := Aside0.mk (Kd.R_below (by (with_reducible repeat (first | apply Kd.R_alloc | apply Kd.R_drewN | apply Kd.R_drew)); exact HL112_2.out) hb); have n6_ := Aside0.mk (Kd.S_lower (Kd.S_new' (Kd.S_new' (Kd.S_new' (Kd.S_new' (Kd.S_new' (Kd.S_new' ho0 (Kd.S_lt (by (with_reducible repeat (first | apply Kd.S_alloc | apply Kd.S_drewN | apply Kd.S_drew)); exact HO103.out))) (Kd.S_lt (by (with_reducible repeat (first | apply Kd.S_alloc | apply Kd.S_drewN | apply Kd.S_drew)); exact HO106.out))) (Kd.S_lt (by (with_reducible repeat (first | apply Kd.S_alloc | apply Kd.S_drewN | apply Kd.S_drew)); exact HO109.out))) (Kd.R_lt (by (with_reducible repeat (first | apply Kd.R_alloc | apply Kd.R_drewN | apply Kd.R_drew)); exact HL110_2.out))) (Kd.R_lt (by (with_reducible repeat (first | apply Kd.R_alloc | apply Kd.R_drewN | apply Kd.R_drew)); exact HL111_2.out))) (Kd.R_lt (by (with_reducible repeat (first | apply Kd.R_alloc | apply Kd.R_drewN | apply Kd.R_drew)); exact HL112_2.out))) (below_size (by repeat (first | (with_reducible first | exact HB.out | apply below_alloc | apply pw_below_drewN | apply below_drew1) | exact HB.out)))); have n7_ := Aside0.mk (Kd.C_below (by repeat (first | (with_reducible exact HR110_2.out) | (with_reducible refine Kd.C_alloc ?_ _) | (with_reducible refine Kd.C_drewN ?_ _) | (with_reducible refine Kd.C_drew ?_) | exact HR110_2.out)) hb); have n8_ := Aside0.mk (Kd.C_below (by repeat (first | (with_reducible exact HR111_2.out) | (with_reducible refine Kd.C_alloc ?_ _) | (with_reducible refine Kd.C_drewN ?_ _) | (with_reducible refine Kd.C_drew ?_) | exact HR111_2.out)) hb); have n9_ := Aside0.mk (Kd.C_below (by repeat (first | (with_reducible exact HR112_2.out) | (with_reducible refine Kd.C_alloc ?_ _) | (with_reducible refine Kd.C_drewN ?_ _) | (with_reducible refine Kd.C_drew ?_) | exact HR112_2.out)) hb); have n10_ := Aside0.mk (below_step (by repeat (first | (with_reducible first | exact HB.out | apply below_alloc | apply pw_below_drewN | apply below_drew1) | exact HB.out)) hb); clear HO103; clear HO106; clear HO109; clear HL110_2; clear HL111_2; clear HL112_2; clear HR110_2; clear HR111_2; clear HR112_2; clear HB; have HO103 := n0_; have HO106 := n1_; have HO109 := n2_; have HL110_2 := n3_; have HL111_2 := n4_; have HL112_2 := n5_; have HO115 := n6_; have HR110_2 := n7_; have HR111_2 := n8_; have HR112_2 := n9_; have HB := n10_; clear n0_ n1_ n2_ n3_ n4_ n5_ n6_ n7_ n8_ n9_ n10_; (try clear hb); (try clear hb2); (try clear hk); (try clear hi); (try clear ho0); obtain ⟨Ao35, co35, eo35⟩ := Kd.S_slice HO115.out; subst eo35))
                  go_ret
                  exact ⟨by first | rfl | (simp [errW_none, errW_some] <;> rfl) | (simp [*, errW_none, errW_some] <;> rfl), by repeat (first | (with_reducible first | exact HB.out | apply below_alloc | apply pw_below_drewN | apply below_drew1) | exact HB.out)⟩
              · rw [if_neg c9] at H
                have c9b0 : (((rd_T34 t107 0).f2) == 3) = false := beq_eq_false_iff_ne.mpr c9
                have c9b1 : (((rd_T34 t107 0).f2) != 3) = true := bne_iff_ne.mpr c9
                obtain rfl := Option.some.inj H
                go_enter Try.func13, Try.ntmps13
                go_wp2_with (first | ((with_reducible refine gate_dst (N := 8) rfl ?_); (try (refine gate_guard (by rfl) ?_; dsimp only)); refine Kd.S_lit k34 _ 34 ?hg (N := 8) ?hd (xs := ([(⟨(⟨2, 0⟩ : S31), ([] : List (S36)), 0⟩ : S34), (⟨(⟨1, 0⟩ : S31), ([] : List (S36)), 3⟩ : S34)] : List (S34))) (inner := [.int .u64 2, .int .u32 0, .slice none 0 0, .int .u64 0, .int .u64 1, .int .u32 0, .slice none 0 0, .int .u64 3]) (ok := fun _ => True) (okp := fun _ => True) ?hr ?hp (fun _ hk => hk) trivial (Below.refl _ _) (Nat.le_refl _) (by simp) ?_; (case hd => rfl); (case hg => rfl); (case hr => first | (go_simp; done) | (go_simp; rfl)); (case hp => exact (Reps.c4 (show Kd.M k34 _ _ _ (⟨(⟨2, 0⟩ : S31), ([] : List (S36)), 0⟩ : S34) [.int .u64 2, .int .u32 0, .slice none 0 0, .int .u64 0] from (k34_mkM _ _ _ (⟨(⟨2, 0⟩ : S31), ([] : List (S36)), 0⟩ : S34) (Kd.R_nil _ _ _ _ _))) (Reps.c4 (show Kd.M k34 _ _ _ (⟨(⟨1, 0⟩ : S31), ([] : List (S36)), 3⟩ : S34) [.int .u64 1, .int .u32 0, .slice none 0 0, .int .u64 3] from (k34_mkM _ _ _ (⟨(⟨1, 0⟩ : S31), ([] : List (S36)), 3⟩ : S34) (Kd.R_nil _ _ _ _ _))) (Reps.none _ _)))); intro v102 w36 ho37 hb hg_ hnew_; clear hg_ hnew_; (first | rw [← Ny101.out] at ho37 | (simp only [Int.reduceToNat] at ho37; rw [← Ny101.out] at ho37)); have n0_ := Aside0.mk (Kd.S_lower ho37 (below_size (by repeat (first | (with_reducible first | exact HB.out | apply below_alloc | apply pw_below_drewN | apply below_drew1) | exact HB.out)))); have n1_ := Aside0.mk (below_step (by repeat (first | (with_reducible first | exact HB.out | apply below_alloc | apply pw_below_drewN | apply below_drew1) | exact HB.out)) hb); clear HB; have HO103 := n0_; have HB := n1_; clear n0_ n1_; clear hb ho37; obtain ⟨Ao38, co38, eo38⟩ := Kd.S_slice HO103.out; subst eo38) | ((with_reducible refine gate_callee (f := 11) rfl ?_); refine goesL_ (some 10) rfl rfl Try.func11 (by kernel_rfl) rfl #[.slice Ao38 y101.length co38, .int .u64 2] rfl (by (try simp only [List.map_toArray, List.map_cons, List.map_nil]); first | done | rfl | (simp only [List.length_drop, List.length_take]; rfl)) ?_; (with_reducible refine (recover_Upto.calls _ _ y101 2 t104 _ ?side1 ?side2 A1.out).mono ?_); (case side1 => repeat (first | exact (Kd.S_reads' HO103.out).2.2 | (with_reducible refine Kd.C_alloc ?_ _) | (with_reducible refine Kd.C_drewN ?_ _) | (with_reducible refine Kd.C_drew ?_))); (case side2 => exact (Kd.S_reads' HO103.out).2.1); rintro e w39 ⟨v105, rfl, ho0, hb⟩; refine ⟨_, rfl, ?_⟩; have n0_ := Aside0.mk (Kd.S_elder' (by (with_reducible repeat (first | apply Kd.S_alloc | apply Kd.S_drewN | apply Kd.S_drew)); exact HO103.out) (Kd.S_base ho0) hb); have n1_ := Aside0.mk (Kd.S_lower (Kd.S_new' ho0 (Kd.S_lt (by (with_reducible repeat (first | apply Kd.S_alloc | apply Kd.S_drewN | apply Kd.S_drew)); exact HO103.out))) (below_size (by repeat (first | (with_reducible first | exact HB.out | apply below_alloc | apply pw_below_drewN | apply below_drew1) | exact HB.out)))); have n2_ := Aside0.mk (below_step (by repeat (first | (with_reducible first | exact HB.out | apply below_alloc | apply pw_below_drewN | apply below_drew1) | exact HB.out)) hb); clear HO103; clear HB; have HO103 := n0_; have HO106 := n1_; have HB := n2_; clear n0_ n1_ n2_; (try clear hb); (try clear hb2); (try clear hk); (try clear hi); (try clear ho0)) | ((with_reducible refine gate_callee (f := 12) rfl ?_); refine goesL_ (some 12) rfl rfl Try.func12 (by kernel_rfl) rfl #[.slice Ao38 y101.length co38, .int .u64 2, .int .u64 3] rfl (by (try simp only [List.map_toArray, List.map_cons, List.map_nil]); first | done | rfl | (simp only [List.length_drop, List.length_take]; rfl)) ?_; (with_reducible refine (recover_Changes.calls _ _ y101 2 3 t107 _ ?side1 ?side2 A2.out).mono ?_); (case side1 => repeat (first | exact (Kd.S_reads' HO103.out).2.2 | (with_reducible refine Kd.C_alloc ?_ _) | (with_reducible refine Kd.C_drewN ?_ _) | (with_reducible refine Kd.C_drew ?_))); (case side2 => exact (Kd.S_reads' HO103.out).2.1); rintro e w40 ⟨v108, rfl, ho0, hb⟩; refine ⟨_, rfl, ?_⟩; have n0_ := Aside0.mk (Kd.S_elder' (by (with_reducible repeat (first | apply Kd.S_alloc | apply Kd.S_drewN | apply Kd.S_drew)); exact HO103.out) (Kd.S_base ho0) hb); have n1_ := Aside0.mk (Kd.S_elder' (by (with_reducible repeat (first | apply Kd.S_alloc | apply Kd.S_drewN | apply Kd.S_drew)); exact HO106.out) (Kd.S_base ho0) hb); have n2_ := Aside0.mk (Kd.S_lower (Kd.S_new' (Kd.S_new' ho0 (Kd.S_lt (by (with_reducible repeat (first | apply Kd.S_alloc | apply Kd.S_drewN | apply Kd.S_drew)); exact HO103.out))) (Kd.S_lt (by (with_reducible repeat (first | apply Kd.S_alloc | apply Kd.S_drewN | apply Kd.S_drew)); exact HO106.out))) (below_size (by repeat (first | (with_reducible first | exact HB.out | apply below_alloc | apply pw_below_drewN | apply below_drew1) | exact HB.out)))); have n3_ := Aside0.mk (below_step (by repeat (first | (with_reducible first | exact HB.out | apply below_alloc | apply pw_below_drewN | apply below_drew1) | exact HB.out)) hb); clear HO103; clear HO106; clear HB; have HO103 := n0_; have HO106 := n1_; have HO109 := n2_; have HB := n3_; clear n0_ n1_ n2_ n3_; (try clear hb); (try clear hb2); (try clear hk); (try clear hi); (try clear ho0); obtain ⟨Ao41, co41, eo41⟩ := Kd.S_slice HO106.out; subst eo41; have p110 : 0 ≤ (0 : Int) := (by omega); have q110 : 0 < (t104.length : Int) := of_decide_eq_true (by first | (with_reducible assumption) | assumption); obtain ⟨ad110, A110_2, c110_2, e110, hx110_0, hx110_1, hx110_2, hx110_3, hl110_2, hi110_2⟩ := at_T34 (Kd.S_reads' HO106.out).2.2 0 p110 q110; cases e110; obtain ⟨ce110, hce110, hMe110, hcc110⟩ := Kd.S_get HO106.out z34 0 p110 (by first | exact q110 | exact of_decide_eq_true (by first | (with_reducible assumption) | assumption) | (have e_ := (Kd.S_reads' HO106.out).1; omega)); obtain ⟨ve110_2, rfl, ge110_2⟩ := k34_openM hMe110; have hv110_2 := hcc110 2 _ rfl; rw [add_field _ _ 2 (by omega)] at hv110_2; replace hv110_2 := Option.some.inj (hv110_2.symm.trans hx110_2); rw [hv110_2] at ge110_2; have HL110_2 := Aside0.mk (show Kd.R k36 36 _ _ _ _ ((rd_T34 t104 0).f1) from ge110_2); clear hv110_2 ge110_2; clear hcc110 hce110; have qi110 : (0 < t104.length) = True := eq_true (by omega); (try rw [show ((0 : Int)).toNat = 0 from rfl] at hx110_0); (try rw [show 0 * 4 = 0 from rfl] at hx110_0); (try rw [Addr.add_zero'] at hx110_0); (try rw [show ((0 : Int)).toNat = 0 from rfl] at hx110_1); (try rw [show 0 * 4 = 0 from rfl] at hx110_1); (try rw [Addr.add_zero'] at hx110_1); (try rw [show ((0 : Int)).toNat = 0 from rfl] at hx110_2); (try rw [show 0 * 4 = 0 from rfl] at hx110_2); (try rw [Addr.add_zero'] at hx110_2); (try rw [show ((0 : Int)).toNat = 0 from rfl] at hx110_3); (try rw [show 0 * 4 = 0 from rfl] at hx110_3); (try rw [Addr.add_zero'] at hx110_3); have HR110_2 := Aside0.mk hi110_2; have HC110_2 := Aside0.mk hl110_2; clear hi110_2 hl110_2; replace p110 := eq_true p110; replace q110 := eq_true q110; have p111 : 0 ≤ (0 : Int) := (by omega); have q111 : 0 < (t104.length : Int) := of_decide_eq_true (by first | (with_reducible assumption) | assumption); obtain ⟨ad111, A111_2, c111_2, e111, hx111_0, hx111_1, hx111_2, hx111_3, hl111_2, hi111_2⟩ := at_T34 (Kd.S_reads' HO106.out).2.2 0 p111 q111; obtain rfl : ad110 = ad111 := (by injection e111); obtain ⟨ce111, hce111, hMe111, hcc111⟩ := Kd.S_get HO106.out z34 0 p111 (by first | exact q111 | exact of_decide_eq_true (by first | (with_reducible assumption) | assumption) | (have e_ := (Kd.S_reads' HO106.out).1; omega)); obtain ⟨ve111_2, rfl, ge111_2⟩ := k34_openM hMe111; have hv111_2 := hcc111 2 _ rfl; rw [add_field _ _ 2 (by omega)] at hv111_2; replace hv111_2 := Option.some.inj (hv111_2.symm.trans hx111_2); rw [hv111_2] at ge111_2; have HL111_2 := Aside0.mk (show Kd.R k36 36 _ _ _ _ ((rd_T34 t104 0).f1) from ge111_2); clear hv111_2 ge111_2; clear hcc111 hce111; have qi111 : (0 < t104.length) = True := eq_true (by omega); (try rw [show ((0 : Int)).toNat = 0 from rfl] at hx111_0); (try rw [show 0 * 4 = 0 from rfl] at hx111_0); (try rw [Addr.add_zero'] at hx111_0); (try rw [show ((0 : Int)).toNat = 0 from rfl] at hx111_1); (try rw [show 0 * 4 = 0 from rfl] at hx111_1); (try rw [Addr.add_zero'] at hx111_1); (try rw [show ((0 : Int)).toNat = 0 from rfl] at hx111_2); (try rw [show 0 * 4 = 0 from rfl] at hx111_2); (try rw [Addr.add_zero'] at hx111_2); (try rw [show ((0 : Int)).toNat = 0 from rfl] at hx111_3); (try rw [show 0 * 4 = 0 from rfl] at hx111_3); (try rw [Addr.add_zero'] at hx111_3); have HR111_2 := Aside0.mk hi111_2; have HC111_2 := Aside0.mk hl111_2; clear hi111_2 hl111_2; replace p111 := eq_true p111; replace q111 := eq_true q111; have ea_ := Option.some.inj (hx110_2.symm.trans hx111_2); injection ea_ with ea_ en_ ec_; subst ea_; subst ec_; clear en_; obtain ⟨Ao42, co42, eo42⟩ := Kd.S_slice HO109.out; subst eo42; have p112 : 0 ≤ (0 : Int) := (by omega); have q112 : 0 < (t107.length : Int) := of_decide_eq_true (by first | (with_reducible assumption) | assumption); obtain ⟨ad112, A112_2, c112_2, e112, hx112_0, hx112_1, hx112_2, hx112_3, hl112_2, hi112_2⟩ := at_T34 (Kd.S_reads' HO109.out).2.2 0 p112 q112; cases e112; obtain ⟨ce112, hce112, hMe112, hcc112⟩ := Kd.S_get HO109.out z34 0 p112 (by first | exact q112 | exact of_decide_eq_true (by first | (with_reducible assumption) | assumption) | (have e_ := (Kd.S_reads' HO109.out).1; omega)); obtain ⟨ve112_2, rfl, ge112_2⟩ := k34_openM hMe112; have hv112_2 := hcc112 2 _ rfl; rw [add_field _ _ 2 (by omega)] at hv112_2; replace hv112_2 := Option.some.inj (hv112_2.symm.trans hx112_2); rw [hv112_2] at ge112_2; have HL112_2 := Aside0.mk (show Kd.R k36 36 _ _ _ _ ((rd_T34 t107 0).f1) from ge112_2); clear hv112_2 ge112_2; clear hcc112 hce112; have qi112 : (0 < t107.length) = True := eq_true (by omega); (try rw [show ((0 : Int)).toNat = 0 from rfl] at hx112_0); (try rw [show 0 * 4 = 0 from rfl] at hx112_0); (try rw [Addr.add_zero'] at hx112_0); (try rw [show ((0 : Int)).toNat = 0 from rfl] at hx112_1); (try rw [show 0 * 4 = 0 from rfl] at hx112_1); (try rw [Addr.add_zero'] at hx112_1); (try rw [show ((0 : Int)).toNat = 0 from rfl] at hx112_2); (try rw [show 0 * 4 = 0 from rfl] at hx112_2); (try rw [Addr.add_zero'] at hx112_2); (try rw [show ((0 : Int)).toNat = 0 from rfl] at hx112_3); (try rw [show 0 * 4 = 0 from rfl] at hx112_3); (try rw [Addr.add_zero'] at hx112_3); have HR112_2 := Aside0.mk hi112_2; have HC112_2 := Aside0.mk hl112_2; clear hi112_2 hl112_2; replace p112 := eq_true p112; replace q112 := eq_true q112))
                go_ret
                exact ⟨by first | rfl | (simp [errW_none, errW_some] <;> rfl) | (simp [*, errW_none, errW_some] <;> rfl), by repeat (first | (with_reducible first | exact HB.out | apply below_alloc | apply pw_below_drewN | apply below_drew1) | exact HB.out)⟩
            · rw [if_neg c8] at H
              exact absurd H (by simp)
          · rw [if_neg c7] at H
            have c7b0 : ((t107.length : Int) == 1) = false := beq_eq_false_iff_ne.mpr c7
            have c7b1 : ((t107.length : Int) != 1) = true := bne_iff_ne.mpr c7
            obtain rfl := Option.some.inj H
            go_enter Try.func13, Try.ntmps13
            go_wp2_with (first | ((with_reducible refine gate_dst (N := 8) rfl ?_); (try (refine gate_guard (by rfl) ?_; dsimp only)); refine Kd.S_lit k34 _ 34 ?hg (N := 8) ?hd (xs := ([(⟨(⟨2, 0⟩ : S31), ([] : List (S36)), 0⟩ : S34), (⟨(⟨1, 0⟩ : S31), ([] : List (S36)), 3⟩ : S34)] : List (S34))) (inner := [.int .u64 2, .int .u32 0, .slice none 0 0, .int .u64 0, .int .u64 1, .int .u32 0, .slice none 0 0, .int .u64 3]) (ok := fun _ => True) (okp := fun _ => True) ?hr ?hp (fun _ hk => hk) trivial (Below.refl _ _) (Nat.le_refl _) (by simp) ?_; (case hd => rfl); (case hg => rfl); (case hr => first | (go_simp; done) | (go_simp; rfl)); (case hp => exact (Reps.c4 (show Kd.M k34 _ _ _ (⟨(⟨2, 0⟩ : S31), ([] : List (S36)), 0⟩ : S34) [.int .u64 2, .int .u32 0, .slice none 0 0, .int .u64 0] from (k34_mkM _ _ _ (⟨(⟨2, 0⟩ : S31), ([] : List (S36)), 0⟩ : S34) (Kd.R_nil _ _ _ _ _))) (Reps.c4 (show Kd.M k34 _ _ _ (⟨(⟨1, 0⟩ : S31), ([] : List (S36)), 3⟩ : S34) [.int .u64 1, .int .u32 0, .slice none 0 0, .int .u64 3] from (k34_mkM _ _ _ (⟨(⟨1, 0⟩ : S31), ([] : List (S36)), 3⟩ : S34) (Kd.R_nil _ _ _ _ _))) (Reps.none _ _)))); intro v102 w43 ho44 hb hg_ hnew_; clear hg_ hnew_; (first | rw [← Ny101.out] at ho44 | (simp only [Int.reduceToNat] at ho44; rw [← Ny101.out] at ho44)); have n0_ := Aside0.mk (Kd.S_lower ho44 (below_size (by repeat (first | (with_reducible first | exact HB.out | apply below_alloc | apply pw_below_drewN | apply below_drew1) | exact HB.out)))); have n1_ := Aside0.mk (below_step (by repeat (first | (with_reducible first | exact HB.out | apply below_alloc | apply pw_below_drewN | apply below_drew1) | exact HB.out)) hb); clear HB; have HO103 := n0_; have HB := n1_; clear n0_ n1_; clear hb ho44; obtain ⟨Ao45, co45, eo45⟩ := Kd.S_slice HO103.out; subst eo45) | ((with_reducible refine gate_callee (f := 11) rfl ?_); refine goesL_ (some 10) rfl rfl Try.func11 (by kernel_rfl) rfl #[.slice Ao45 y101.length co45, .int .u64 2] rfl (by (try simp only [List.map_toArray, List.map_cons, List.map_nil]); first | done | rfl | (simp only [List.length_drop, List.length_take]; rfl)) ?_; (with_reducible refine (recover_Upto.calls _ _ y101 2 t104 _ ?side1 ?side2 A1.out).mono ?_); (case side1 => repeat (first | exact (Kd.S_reads' HO103.out).2.2 | (with_reducible refine Kd.C_alloc ?_ _) | (with_reducible refine Kd.C_drewN ?_ _) | (with_reducible refine Kd.C_drew ?_))); (case side2 => exact (Kd.S_reads' HO103.out).2.1); rintro e w46 ⟨v105, rfl, ho0, hb⟩; refine ⟨_, rfl, ?_⟩; have n0_ := Aside0.mk (Kd.S_elder' (by (with_reducible repeat (first | apply Kd.S_alloc | apply Kd.S_drewN | apply Kd.S_drew)); exact HO103.out) (Kd.S_base ho0) hb); have n1_ := Aside0.mk (Kd.S_lower (Kd.S_new' ho0 (Kd.S_lt (by (with_reducible repeat (first | apply Kd.S_alloc | apply Kd.S_drewN | apply Kd.S_drew)); exact HO103.out))) (below_size (by repeat (first | (with_reducible first | exact HB.out | apply below_alloc | apply pw_below_drewN | apply below_drew1) | exact HB.out)))); have n2_ := Aside0.mk (below_step (by repeat (first | (with_reducible first | exact HB.out | apply below_alloc | apply pw_below_drewN | apply below_drew1) | exact HB.out)) hb); clear HO103; clear HB; have HO103 := n0_; have HO106 := n1_; have HB := n2_; clear n0_ n1_ n2_; (try clear hb); (try clear hb2); (try clear hk); (try clear hi); (try clear ho0)) | ((with_reducible refine gate_callee (f := 12) rfl ?_); refine goesL_ (some 12) rfl rfl Try.func12 (by kernel_rfl) rfl #[.slice Ao45 y101.length co45, .int .u64 2, .int .u64 3] rfl (by (try simp only [List.map_toArray, List.map_cons, List.map_nil]); first | done | rfl | (simp only [List.length_drop, List.length_take]; rfl)) ?_; (with_reducible refine (recover_Changes.calls _ _ y101 2 3 t107 _ ?side1 ?side2 A2.out).mono ?_); (case side1 => repeat (first | exact (Kd.S_reads' HO103.out).2.2 | (with_reducible refine Kd.C_alloc ?_ _) | (with_reducible refine Kd.C_drewN ?_ _) | (with_reducible refine Kd.C_drew ?_))); (case side2 => exact (Kd.S_reads' HO103.out).2.1); rintro e w47 ⟨v108, rfl, ho0, hb⟩; refine ⟨_, rfl, ?_⟩; have n0_ := Aside0.mk (Kd.S_elder' (by (with_reducible repeat (first | apply Kd.S_alloc | apply Kd.S_drewN | apply Kd.S_drew)); exact HO103.out) (Kd.S_base ho0) hb); have n1_ := Aside0.mk (Kd.S_elder' (by (with_reducible repeat (first | apply Kd.S_alloc | apply Kd.S_drewN | apply Kd.S_drew)); exact HO106.out) (Kd.S_base ho0) hb); have n2_ := Aside0.mk (Kd.S_lower (Kd.S_new' (Kd.S_new' ho0 (Kd.S_lt (by (with_reducible repeat (first | apply Kd.S_alloc | apply Kd.S_drewN | apply Kd.S_drew)); exact HO103.out))) (Kd.S_lt (by (with_reducible repeat (first | apply Kd.S_alloc | apply Kd.S_drewN | apply Kd.S_drew)); exact HO106.out))) (below_size (by repeat (first | (with_reducible first | exact HB.out | apply below_alloc | apply pw_below_drewN | apply below_drew1) | exact HB.out)))); have n3_ := Aside0.mk (below_step (by repeat (first | (with_reducible first | exact HB.out | apply below_alloc | apply pw_below_drewN | apply below_drew1) | exact HB.out)) hb); clear HO103; clear HO106; clear HB; have HO103 := n0_; have HO106 := n1_; have HO109 := n2_; have HB := n3_; clear n0_ n1_ n2_ n3_; (try clear hb); (try clear hb2); (try clear hk); (try clear hi); (try clear ho0); obtain ⟨Ao48, co48, eo48⟩ := Kd.S_slice HO106.out; subst eo48; have p110 : 0 ≤ (0 : Int) := (by omega); have q110 : 0 < (t104.length : Int) := of_decide_eq_true (by first | (with_reducible assumption) | assumption); obtain ⟨ad110, A110_2, c110_2, e110, hx110_0, hx110_1, hx110_2, hx110_3, hl110_2, hi110_2⟩ := at_T34 (Kd.S_reads' HO106.out).2.2 0 p110 q110; cases e110; obtain ⟨ce110, hce110, hMe110, hcc110⟩ := Kd.S_get HO106.out z34 0 p110 (by first | exact q110 | exact of_decide_eq_true (by first | (with_reducible assumption) | assumption) | (have e_ := (Kd.S_reads' HO106.out).1; omega)); obtain ⟨ve110_2, rfl, ge110_2⟩ := k34_openM hMe110; have hv110_2 := hcc110 2 _ rfl; rw [add_field _ _ 2 (by omega)] at hv110_2; replace hv110_2 := Option.some.inj (hv110_2.symm.trans hx110_2); rw [hv110_2] at ge110_2; have HL110_2 := Aside0.mk (show Kd.R k36 36 _ _ _ _ ((rd_T34 t104 0).f1) from ge110_2); clear hv110_2 ge110_2; clear hcc110 hce110; have qi110 : (0 < t104.length) = True := eq_true (by omega); (try rw [show ((0 : Int)).toNat = 0 from rfl] at hx110_0); (try rw [show 0 * 4 = 0 from rfl] at hx110_0); (try rw [Addr.add_zero'] at hx110_0); (try rw [show ((0 : Int)).toNat = 0 from rfl] at hx110_1); (try rw [show 0 * 4 = 0 from rfl] at hx110_1); (try rw [Addr.add_zero'] at hx110_1); (try rw [show ((0 : Int)).toNat = 0 from rfl] at hx110_2); (try rw [show 0 * 4 = 0 from rfl] at hx110_2); (try rw [Addr.add_zero'] at hx110_2); (try rw [show ((0 : Int)).toNat = 0 from rfl] at hx110_3); (try rw [show 0 * 4 = 0 from rfl] at hx110_3); (try rw [Addr.add_zero'] at hx110_3); have HR110_2 := Aside0.mk hi110_2; have HC110_2 := Aside0.mk hl110_2; clear hi110_2 hl110_2; replace p110 := eq_true p110; replace q110 := eq_true q110; have p111 : 0 ≤ (0 : Int) := (by omega); have q111 : 0 < (t104.length : Int) := of_decide_eq_true (by first | (with_reducible assumption) | assumption); obtain ⟨ad111, A111_2, c111_2, e111, hx111_0, hx111_1, hx111_2, hx111_3, hl111_2, hi111_2⟩ := at_T34 (Kd.S_reads' HO106.out).2.2 0 p111 q111; obtain rfl : ad110 = ad111 := (by injection e111); obtain ⟨ce111, hce111, hMe111, hcc111⟩ := Kd.S_get HO106.out z34 0 p111 (by first | exact q111 | exact of_decide_eq_true (by first | (with_reducible assumption) | assumption) | (have e_ := (Kd.S_reads' HO106.out).1; omega)); obtain ⟨ve111_2, rfl, ge111_2⟩ := k34_openM hMe111; have hv111_2 := hcc111 2 _ rfl; rw [add_field _ _ 2 (by omega)] at hv111_2; replace hv111_2 := Option.some.inj (hv111_2.symm.trans hx111_2); rw [hv111_2] at ge111_2; have HL111_2 := Aside0.mk (show Kd.R k36 36 _ _ _ _ ((rd_T34 t104 0).f1) from ge111_2); clear hv111_2 ge111_2; clear hcc111 hce111; have qi111 : (0 < t104.length) = True := eq_true (by omega); (try rw [show ((0 : Int)).toNat = 0 from rfl] at hx111_0); (try rw [show 0 * 4 = 0 from rfl] at hx111_0); (try rw [Addr.add_zero'] at hx111_0); (try rw [show ((0 : Int)).toNat = 0 from rfl] at hx111_1); (try rw [show 0 * 4 = 0 from rfl] at hx111_1); (try rw [Addr.add_zero'] at hx111_1); (try rw [show ((0 : Int)).toNat = 0 from rfl] at hx111_2); (try rw [show 0 * 4 = 0 from rfl] at hx111_2); (try rw [Addr.add_zero'] at hx111_2); (try rw [show ((0 : Int)).toNat = 0 from rfl] at hx111_3); (try rw [show 0 * 4 = 0 from rfl] at hx111_3); (try rw [Addr.add_zero'] at hx111_3); have HR111_2 := Aside0.mk hi111_2; have HC111_2 := Aside0.mk hl111_2; clear hi111_2 hl111_2; replace p111 := eq_true p111; replace q111 := eq_true q111; have ea_ := Option.some.inj (hx110_2.symm.trans hx111_2); injection ea_ with ea_ en_ ec_; subst ea_; subst ec_; clear en_; obtain ⟨Ao49, co49, eo49⟩ := Kd.S_slice HO109.out; subst eo49))
            go_ret
            exact ⟨by first | rfl | (simp [errW_none, errW_some] <;> rfl) | (simp [*, errW_none, errW_some] <;> rfl), by repeat (first | (with_reducible first | exact HB.out | apply below_alloc | apply pw_below_drewN | apply below_drew1) | exact HB.out)⟩
        · rw [if_neg c6] at H
          have c6b0 : (((rd_T34 t104 0).f2) == 0) = false := beq_eq_false_iff_ne.mpr c6
          have c6b1 : (((rd_T34 t104 0).f2) != 0) = true := bne_iff_ne.mpr c6
          obtain rfl := Option.some.inj H
          go_enter Try.func13, Try.ntmps13
          go_wp2_with (first | ((with_reducible refine gate_dst (N := 8) rfl ?_); (try (refine gate_guard (by rfl) ?_; dsimp only)); refine Kd.S_lit k34 _ 34 ?hg (N := 8) ?hd (xs := ([(⟨(⟨2, 0⟩ : S31), ([] : List (S36)), 0⟩ : S34), (⟨(⟨1, 0⟩ : S31), ([] : List (S36)), 3⟩ : S34)] : List (S34))) (inner := [.int .u64 2, .int .u32 0, .slice none 0 0, .int .u64 0, .int .u64 1, .int .u32 0, .slice none 0 0, .int .u64 3]) (ok := fun _ => True) (okp := fun _ => True) ?hr ?hp (fun _ hk => hk) trivial (Below.refl _ _) (Nat.le_refl _) (by simp) ?_; (case hd => rfl); (case hg => rfl); (case hr => first | (go_simp; done) | (go_simp; rfl)); (case hp => exact (Reps.c4 (show Kd.M k34 _ _ _ (⟨(⟨2, 0⟩ : S31), ([] : List (S36)), 0⟩ : S34) [.int .u64 2, .int .u32 0, .slice none 0 0, .int .u64 0] from (k34_mkM _ _ _ (⟨(⟨2, 0⟩ : S31), ([] : List (S36)), 0⟩ : S34) (Kd.R_nil _ _ _ _ _))) (Reps.c4 (show Kd.M k34 _ _ _ (⟨(⟨1, 0⟩ : S31), ([] : List (S36)), 3⟩ : S34) [.int .u64 1, .int .u32 0, .slice none 0 0, .int .u64 3] from (k34_mkM _ _ _ (⟨(⟨1, 0⟩ : S31), ([] : List (S36)), 3⟩ : S34) (Kd.R_nil _ _ _ _ _))) (Reps.none _ _)))); intro v102 w50 ho51 hb hg_ hnew_; clear hg_ hnew_; (first | rw [← Ny101.out] at ho51 | (simp only [Int.reduceToNat] at ho51; rw [← Ny101.out] at ho51)); have n0_ := Aside0.mk (Kd.S_lower ho51 (below_size (by repeat (first | (with_reducible first | exact HB.out | apply below_alloc | apply pw_below_drewN | apply below_drew1) | exact HB.out)))); have n1_ := Aside0.mk (below_step (by repeat (first | (with_reducible first | exact HB.out | apply below_alloc | apply pw_below_drewN | apply below_drew1) | exact HB.out)) hb); clear HB; have HO103 := n0_; have HB := n1_; clear n0_ n1_; clear hb ho51; obtain ⟨Ao52, co52, eo52⟩ := Kd.S_slice HO103.out; subst eo52) | ((with_reducible refine gate_callee (f := 11) rfl ?_); refine goesL_ (some 10) rfl rfl Try.func11 (by kernel_rfl) rfl #[.slice Ao52 y101.length co52, .int .u64 2] rfl (by (try simp only [List.map_toArray, List.map_cons, List.map_nil]); first | done | rfl | (simp only [List.length_drop, List.length_take]; rfl)) ?_; (with_reducible refine (recover_Upto.calls _ _ y101 2 t104 _ ?side1 ?side2 A1.out).mono ?_); (case side1 => repeat (first | exact (Kd.S_reads' HO103.out).2.2 | (with_reducible refine Kd.C_alloc ?_ _) | (with_reducible refine Kd.C_drewN ?_ _) | (with_reducible refine Kd.C_drew ?_))); (case side2 => exact (Kd.S_reads' HO103.out).2.1); rintro e w53 ⟨v105, rfl, ho0, hb⟩; refine ⟨_, rfl, ?_⟩; have n0_ := Aside0.mk (Kd.S_elder' (by (with_reducible repeat (first | apply Kd.S_alloc | apply Kd.S_drewN | apply Kd.S_drew)); exact HO103.out) (Kd.S_base ho0) hb); have n1_ := Aside0.mk (Kd.S_lower (Kd.S_new' ho0 (Kd.S_lt (by (with_reducible repeat (first | apply Kd.S_alloc | apply Kd.S_drewN | apply Kd.S_drew)); exact HO103.out))) (below_size (by repeat (first | (with_reducible first | exact HB.out | apply below_alloc | apply pw_below_drewN | apply below_drew1) | exact HB.out)))); have n2_ := Aside0.mk (below_step (by repeat (first | (with_reducible first | exact HB.out | apply below_alloc | apply pw_below_drewN | apply below_drew1) | exact HB.out)) hb); clear HO103; clear HB; have HO103 := n0_; have HO106 := n1_; have HB := n2_; clear n0_ n1_ n2_; (try clear hb); (try clear hb2); (try clear hk); (try clear hi); (try clear ho0)) | ((with_reducible refine gate_callee (f := 12) rfl ?_); refine goesL_ (some 12) rfl rfl Try.func12 (by kernel_rfl) rfl #[.slice Ao52 y101.length co52, .int .u64 2, .int .u64 3] rfl (by (try simp only [List.map_toArray, List.map_cons, List.map_nil]); first | done | rfl | (simp only [List.length_drop, List.length_take]; rfl)) ?_; (with_reducible refine (recover_Changes.calls _ _ y101 2 3 t107 _ ?side1 ?side2 A2.out).mono ?_); (case side1 => repeat (first | exact (Kd.S_reads' HO103.out).2.2 | (with_reducible refine Kd.C_alloc ?_ _) | (with_reducible refine Kd.C_drewN ?_ _) | (with_reducible refine Kd.C_drew ?_))); (case side2 => exact (Kd.S_reads' HO103.out).2.1); rintro e w54 ⟨v108, rfl, ho0, hb⟩; refine ⟨_, rfl, ?_⟩; have n0_ := Aside0.mk (Kd.S_elder' (by (with_reducible repeat (first | apply Kd.S_alloc | apply Kd.S_drewN | apply Kd.S_drew)); exact HO103.out) (Kd.S_base ho0) hb); have n1_ := Aside0.mk (Kd.S_elder' (by (with_reducible repeat (first | apply Kd.S_alloc | apply Kd.S_drewN | apply Kd.S_drew)); exact HO106.out) (Kd.S_base ho0) hb); have n2_ := Aside0.mk (Kd.S_lower (Kd.S_new' (Kd.S_new' ho0 (Kd.S_lt (by (with_reducible repeat (first | apply Kd.S_alloc | apply Kd.S_drewN | apply Kd.S_drew)); exact HO103.out))) (Kd.S_lt (by (with_reducible repeat (first | apply Kd.S_alloc | apply Kd.S_drewN | apply Kd.S_drew)); exact HO106.out))) (below_size (by repeat (first | (with_reducible first | exact HB.out | apply below_alloc | apply pw_below_drewN | apply below_drew1) | exact HB.out)))); have n3_ := Aside0.mk (below_step (by repeat (first | (with_reducible first | exact HB.out | apply below_alloc | apply pw_below_drewN | apply below_drew1) | exact HB.out)) hb); clear HO103; clear HO106; clear HB; have HO103 := n0_; have HO106 := n1_; have HO109 := n2_; have HB := n3_; clear n0_ n1_ n2_ n3_; (try clear hb); (try clear hb2); (try clear hk); (try clear hi); (try clear ho0); obtain ⟨Ao55, co55, eo55⟩ := Kd.S_slice HO106.out; subst eo55; have p110 : 0 ≤ (0 : Int) := (by omega); have q110 : 0 < (t104.length : Int) := of_decide_eq_true (by first | (with_reducible assumption) | assumption); obtain ⟨ad110, A110_2, c110_2, e110, hx110_0, hx110_1, hx110_2, hx110_3, hl110_2, hi110_2⟩ := at_T34 (Kd.S_reads' HO106.out).2.2 0 p110 q110; cases e110; obtain ⟨ce110, hce110, hMe110, hcc110⟩ := Kd.S_get HO106.out z34 0 p110 (by first | exact q110 | exact of_decide_eq_true (by first | (with_reducible assumption) | assumption) | (have e_ := (Kd.S_reads' HO106.out).1; omega)); obtain ⟨ve110_2, rfl, ge110_2⟩ := k34_openM hMe110; have hv110_2 := hcc110 2 _ rfl; rw [add_field _ _ 2 (by omega)] at hv110_2; replace hv110_2 := Option.some.inj (hv110_2.symm.trans hx110_2); rw [hv110_2] at ge110_2; have HL110_2 := Aside0.mk (show Kd.R k36 36 _ _ _ _ ((rd_T34 t104 0).f1) from ge110_2); clear hv110_2 ge110_2; clear hcc110 hce110; have qi110 : (0 < t104.length) = True := eq_true (by omega); (try rw [show ((0 : Int)).toNat = 0 from rfl] at hx110_0); (try rw [show 0 * 4 = 0 from rfl] at hx110_0); (try rw [Addr.add_zero'] at hx110_0); (try rw [show ((0 : Int)).toNat = 0 from rfl] at hx110_1); (try rw [show 0 * 4 = 0 from rfl] at hx110_1); (try rw [Addr.add_zero'] at hx110_1); (try rw [show ((0 : Int)).toNat = 0 from rfl] at hx110_2); (try rw [show 0 * 4 = 0 from rfl] at hx110_2); (try rw [Addr.add_zero'] at hx110_2); (try rw [show ((0 : Int)).toNat = 0 from rfl] at hx110_3); (try rw [show 0 * 4 = 0 from rfl] at hx110_3); (try rw [Addr.add_zero'] at hx110_3); have HR110_2 := Aside0.mk hi110_2; have HC110_2 := Aside0.mk hl110_2; clear hi110_2 hl110_2; replace p110 := eq_true p110; replace q110 := eq_true q110; have p111 : 0 ≤ (0 : Int) := (by omega); have q111 : 0 < (t104.length : Int) := of_decide_eq_true (by first | (with_reducible assumption) | assumption); obtain ⟨ad111, A111_2, c111_2, e111, hx111_0, hx111_1, hx111_2, hx111_3, hl111_2, hi111_2⟩ := at_T34 (Kd.S_reads' HO106.out).2.2 0 p111 q111; obtain rfl : ad110 = ad111 := (by injection e111); obtain ⟨ce111, hce111, hMe111, hcc111⟩ := Kd.S_get HO106.out z34 0 p111 (by first | exact q111 | exact of_decide_eq_true (by first | (with_reducible assumption) | assumption) | (have e_ := (Kd.S_reads' HO106.out).1; omega)); obtain ⟨ve111_2, rfl, ge111_2⟩ := k34_openM hMe111; have hv111_2 := hcc111 2 _ rfl; rw [add_field _ _ 2 (by omega)] at hv111_2; replace hv111_2 := Option.some.inj (hv111_2.symm.trans hx111_2); rw [hv111_2] at ge111_2; have HL111_2 := Aside0.mk (show Kd.R k36 36 _ _ _ _ ((rd_T34 t104 0).f1) from ge111_2); clear hv111_2 ge111_2; clear hcc111 hce111; have qi111 : (0 < t104.length) = True := eq_true (by omega); (try rw [show ((0 : Int)).toNat = 0 from rfl] at hx111_0); (try rw [show 0 * 4 = 0 from rfl] at hx111_0); (try rw [Addr.add_zero'] at hx111_0); (try rw [show ((0 : Int)).toNat = 0 from rfl] at hx111_1); (try rw [show 0 * 4 = 0 from rfl] at hx111_1); (try rw [Addr.add_zero'] at hx111_1); (try rw [show ((0 : Int)).toNat = 0 from rfl] at hx111_2); (try rw [show 0 * 4 = 0 from rfl] at hx111_2); (try rw [Addr.add_zero'] at hx111_2); (try rw [show ((0 : Int)).toNat = 0 from rfl] at hx111_3); (try rw [show 0 * 4 = 0 from rfl] at hx111_3); (try rw [Addr.add_zero'] at hx111_3); have HR111_2 := Aside0.mk hi111_2; have HC111_2 := Aside0.mk hl111_2; clear hi111_2 hl111_2; replace p111 := eq_true p111; replace q111 := eq_true q111; have ea_ := Option.some.inj (hx110_2.symm.trans hx111_2); injection ea_ with ea_ en_ ec_; subst ea_; subst ec_; clear en_))
          go_ret
          exact ⟨by first | rfl | (simp [errW_none, errW_some] <;> rfl) | (simp [*, errW_none, errW_some] <;> rfl), by repeat (first | (with_reducible first | exact HB.out | apply below_alloc | apply pw_below_drewN | apply below_drew1) | exact HB.out)⟩
      · rw [if_neg c5] at H
        have c5b0 : (((rd_T34 t104 0).f0.f0) == 1) = false := beq_eq_false_iff_ne.mpr c5
        have c5b1 : (((rd_T34 t104 0).f0.f0) != 1) = true := bne_iff_ne.mpr c5
        obtain rfl := Option.some.inj H
        go_enter Try.func13, Try.ntmps13
        go_wp2_with (first | ((with_reducible refine gate_dst (N := 8) rfl ?_); (try (refine gate_guard (by rfl) ?_; dsimp only)); refine Kd.S_lit k34 _ 34 ?hg (N := 8) ?hd (xs := ([(⟨(⟨2, 0⟩ : S31), ([] : List (S36)), 0⟩ : S34), (⟨(⟨1, 0⟩ : S31), ([] : List (S36)), 3⟩ : S34)] : List (S34))) (inner := [.int .u64 2, .int .u32 0, .slice none 0 0, .int .u64 0, .int .u64 1, .int .u32 0, .slice none 0 0, .int .u64 3]) (ok := fun _ => True) (okp := fun _ => True) ?hr ?hp (fun _ hk => hk) trivial (Below.refl _ _) (Nat.le_refl _) (by simp) ?_; (case hd => rfl); (case hg => rfl); (case hr => first | (go_simp; done) | (go_simp; rfl)); (case hp => exact (Reps.c4 (show Kd.M k34 _ _ _ (⟨(⟨2, 0⟩ : S31), ([] : List (S36)), 0⟩ : S34) [.int .u64 2, .int .u32 0, .slice none 0 0, .int .u64 0] from (k34_mkM _ _ _ (⟨(⟨2, 0⟩ : S31), ([] : List (S36)), 0⟩ : S34) (Kd.R_nil _ _ _ _ _))) (Reps.c4 (show Kd.M k34 _ _ _ (⟨(⟨1, 0⟩ : S31), ([] : List (S36)), 3⟩ : S34) [.int .u64 1, .int .u32 0, .slice none 0 0, .int .u64 3] from (k34_mkM _ _ _ (⟨(⟨1, 0⟩ : S31), ([] : List (S36)), 3⟩ : S34) (Kd.R_nil _ _ _ _ _))) (Reps.none _ _)))); intro v102 w56 ho57 hb hg_ hnew_; clear hg_ hnew_; (first | rw [← Ny101.out] at ho57 | (simp only [Int.reduceToNat] at ho57; rw [← Ny101.out] at ho57)); have n0_ := Aside0.mk (Kd.S_lower ho57 (below_size (by repeat (first | (with_reducible first | exact HB.out | apply below_alloc | apply pw_below_drewN | apply below_drew1) | exact HB.out)))); have n1_ := Aside0.mk (below_step (by repeat (first | (with_reducible first | exact HB.out | apply below_alloc | apply pw_below_drewN | apply below_drew1) | exact HB.out)) hb); clear HB; have HO103 := n0_; have HB := n1_; clear n0_ n1_; clear hb ho57; obtain ⟨Ao58, co58, eo58⟩ := Kd.S_slice HO103.out; subst eo58) | ((with_reducible refine gate_callee (f := 11) rfl ?_); refine goesL_ (some 10) rfl rfl Try.func11 (by kernel_rfl) rfl #[.slice Ao58 y101.length co58, .int .u64 2] rfl (by (try simp only [List.map_toArray, List.map_cons, List.map_nil]); first | done | rfl | (simp only [List.length_drop, List.length_take]; rfl)) ?_; (with_reducible refine (recover_Upto.calls _ _ y101 2 t104 _ ?side1 ?side2 A1.out).mono ?_); (case side1 => repeat (first | exact (Kd.S_reads' HO103.out).2.2 | (with_reducible refine Kd.C_alloc ?_ _) | (with_reducible refine Kd.C_drewN ?_ _) | (with_reducible refine Kd.C_drew ?_))); (case side2 => exact (Kd.S_reads' HO103.out).2.1); rintro e w59 ⟨v105, rfl, ho0, hb⟩; refine ⟨_, rfl, ?_⟩; have n0_ := Aside0.mk (Kd.S_elder' (by (with_reducible repeat (first | apply Kd.S_alloc | apply Kd.S_drewN | apply Kd.S_drew)); exact HO103.out) (Kd.S_base ho0) hb); have n1_ := Aside0.mk (Kd.S_lower (Kd.S_new' ho0 (Kd.S_lt (by (with_reducible repeat (first | apply Kd.S_alloc | apply Kd.S_drewN | apply Kd.S_drew)); exact HO103.out))) (below_size (by repeat (first | (with_reducible first | exact HB.out | apply below_alloc | apply pw_below_drewN | apply below_drew1) | exact HB.out)))); have n2_ := Aside0.mk (below_step (by repeat (first | (with_reducible first | exact HB.out | apply below_alloc | apply pw_below_drewN | apply below_drew1) | exact HB.out)) hb); clear HO103; clear HB; have HO103 := n0_; have HO106 := n1_; have HB := n2_; clear n0_ n1_ n2_; (try clear hb); (try clear hb2); (try clear hk); (try clear hi); (try clear ho0)) | ((with_reducible refine gate_callee (f := 12) rfl ?_); refine goesL_ (some 12) rfl rfl Try.func12 (by kernel_rfl) rfl #[.slice Ao58 y101.length co58, .int .u64 2, .int .u64 3] rfl (by (try simp only [List.map_toArray, List.map_cons, List.map_nil]); first | done | rfl | (simp only [List.length_drop, List.length_take]; rfl)) ?_; (with_reducible refine (recover_Changes.calls _ _ y101 2 3 t107 _ ?side1 ?side2 A2.out).mono ?_); (case side1 => repeat (first | exact (Kd.S_reads' HO103.out).2.2 | (with_reducible refine Kd.C_alloc ?_ _) | (with_reducible refine Kd.C_drewN ?_ _) | (with_reducible refine Kd.C_drew ?_))); (case side2 => exact (Kd.S_reads' HO103.out).2.1); rintro e w60 ⟨v108, rfl, ho0, hb⟩; refine ⟨_, rfl, ?_⟩; have n0_ := Aside0.mk (Kd.S_elder' (by (with_reducible repeat (first | apply Kd.S_alloc | apply Kd.S_drewN | apply Kd.S_drew)); exact HO103.out) (Kd.S_base ho0) hb); have n1_ := Aside0.mk (Kd.S_elder' (by (with_reducible repeat (first | apply Kd.S_alloc | apply Kd.S_drewN | apply Kd.S_drew)); exact HO106.out) (Kd.S_base ho0) hb); have n2_ := Aside0.mk (Kd.S_lower (Kd.S_new' (Kd.S_new' ho0 (Kd.S_lt (by (with_reducible repeat (first | apply Kd.S_alloc | apply Kd.S_drewN | apply Kd.S_drew)); exact HO103.out))) (Kd.S_lt (by (with_reducible repeat (first | apply Kd.S_alloc | apply Kd.S_drewN | apply Kd.S_drew)); exact HO106.out))) (below_size (by repeat (first | (with_reducible first | exact HB.out | apply below_alloc | apply pw_below_drewN | apply below_drew1) | exact HB.out)))); have n3_ := Aside0.mk (below_step (by repeat (first | (with_reducible first | exact HB.out | apply below_alloc | apply pw_below_drewN | apply below_drew1) | exact HB.out)) hb); clear HO103; clear HO106; clear HB; have HO103 := n0_; have HO106 := n1_; have HO109 := n2_; have HB := n3_; clear n0_ n1_ n2_ n3_; (try clear hb); (try clear hb2); (try clear hk); (try clear hi); (try clear ho0); obtain ⟨Ao61, co61, eo61⟩ := Kd.S_slice HO106.out; subst eo61; have p110 : 0 ≤ (0 : Int) := (by omega); have q110 : 0 < (t104.length : Int) := of_decide_eq_true (by first | (with_reducible assumption) | assumption); obtain ⟨ad110, A110_2, c110_2, e110, hx110_0, hx110_1, hx110_2, hx110_3, hl110_2, hi110_2⟩ := at_T34 (Kd.S_reads' HO106.out).2.2 0 p110 q110; cases e110; obtain ⟨ce110, hce110, hMe110, hcc110⟩ := Kd.S_get HO106.out z34 0 p110 (by first | exact q110 | exact of_decide_eq_true (by first | (with_reducible assumption) | assumption) | (have e_ := (Kd.S_reads' HO106.out).1; omega)); obtain ⟨ve110_2, rfl, ge110_2⟩ := k34_openM hMe110; have hv110_2 := hcc110 2 _ rfl; rw [add_field _ _ 2 (by omega)] at hv110_2; replace hv110_2 := Option.some.inj (hv110_2.symm.trans hx110_2); rw [hv110_2] at ge110_2; have HL110_2 := Aside0.mk (show Kd.R k36 36 _ _ _ _ ((rd_T34 t104 0).f1) from ge110_2); clear hv110_2 ge110_2; clear hcc110 hce110; have qi110 : (0 < t104.length) = True := eq_true (by omega); (try rw [show ((0 : Int)).toNat = 0 from rfl] at hx110_0); (try rw [show 0 * 4 = 0 from rfl] at hx110_0); (try rw [Addr.add_zero'] at hx110_0); (try rw [show ((0 : Int)).toNat = 0 from rfl] at hx110_1); (try rw [show 0 * 4 = 0 from rfl] at hx110_1); (try rw [Addr.add_zero'] at hx110_1); (try rw [show ((0 : Int)).toNat = 0 from rfl] at hx110_2); (try rw [show 0 * 4 = 0 from rfl] at hx110_2); (try rw [Addr.add_zero'] at hx110_2); (try rw [show ((0 : Int)).toNat = 0 from rfl] at hx110_3); (try rw [show 0 * 4 = 0 from rfl] at hx110_3); (try rw [Addr.add_zero'] at hx110_3); have HR110_2 := Aside0.mk hi110_2; have HC110_2 := Aside0.mk hl110_2; clear hi110_2 hl110_2; replace p110 := eq_true p110; replace q110 := eq_true q110))
        go_ret
        exact ⟨by first | rfl | (simp [errW_none, errW_some] <;> rfl) | (simp [*, errW_none, errW_some] <;> rfl), by repeat (first | (with_reducible first | exact HB.out | apply below_alloc | apply pw_below_drewN | apply below_drew1) | exact HB.out)⟩
    · rw [if_neg c4] at H
      exact absurd H (by simp)
  · rw [if_neg c3] at H
    have c3b0 : ((t104.length : Int) == 2) = false := beq_eq_false_iff_ne.mpr c3
    have c3b1 : ((t104.length : Int) != 2) = true := bne_iff_ne.mpr c3
    obtain rfl := Option.some.inj H
    go_enter Try.func13, Try.ntmps13
    go_wp2_with (first | ((with_reducible refine gate_dst (N := 8) rfl ?_); (try (refine gate_guard (by rfl) ?_; dsimp only)); refine Kd.S_lit k34 _ 34 ?hg (N := 8) ?hd (xs := ([(⟨(⟨2, 0⟩ : S31), ([] : List (S36)), 0⟩ : S34), (⟨(⟨1, 0⟩ : S31), ([] : List (S36)), 3⟩ : S34)] : List (S34))) (inner := [.int .u64 2, .int .u32 0, .slice none 0 0, .int .u64 0, .int .u64 1, .int .u32 0, .slice none 0 0, .int .u64 3]) (ok := fun _ => True) (okp := fun _ => True) ?hr ?hp (fun _ hk => hk) trivial (Below.refl _ _) (Nat.le_refl _) (by simp) ?_; (case hd => rfl); (case hg => rfl); (case hr => first | (go_simp; done) | (go_simp; rfl)); (case hp => exact (Reps.c4 (show Kd.M k34 _ _ _ (⟨(⟨2, 0⟩ : S31), ([] : List (S36)), 0⟩ : S34) [.int .u64 2, .int .u32 0, .slice none 0 0, .int .u64 0] from (k34_mkM _ _ _ (⟨(⟨2, 0⟩ : S31), ([] : List (S36)), 0⟩ : S34) (Kd.R_nil _ _ _ _ _))) (Reps.c4 (show Kd.M k34 _ _ _ (⟨(⟨1, 0⟩ : S31), ([] : List (S36)), 3⟩ : S34) [.int .u64 1, .int .u32 0, .slice none 0 0, .int .u64 3] from (k34_mkM _ _ _ (⟨(⟨1, 0⟩ : S31), ([] : List (S36)), 3⟩ : S34) (Kd.R_nil _ _ _ _ _))) (Reps.none _ _)))); intro v102 w62 ho63 hb hg_ hnew_; clear hg_ hnew_; (first | rw [← Ny101.out] at ho63 | (simp only [Int.reduceToNat] at ho63; rw [← Ny101.out] at ho63)); have n0_ := Aside0.mk (Kd.S_lower ho63 (below_size (by repeat (first | (with_reducible first | exact HB.out | apply below_alloc | apply pw_below_drewN | apply below_drew1) | exact HB.out)))); have n1_ := Aside0.mk (below_step (by repeat (first | (with_reducible first | exact HB.out | apply below_alloc | apply pw_below_drewN | apply below_drew1) | exact HB.out)) hb); clear HB; have HO103 := n0_; have HB := n1_; clear n0_ n1_; clear hb ho63; obtain ⟨Ao64, co64, eo64⟩ := Kd.S_slice HO103.out; subst eo64) | ((with_reducible refine gate_callee (f := 11) rfl ?_); refine goesL_ (some 10) rfl rfl Try.func11 (by kernel_rfl) rfl #[.slice Ao64 y101.length co64, .int .u64 2] rfl (by (try simp only [List.map_toArray, List.map_cons, List.map_nil]); first | done | rfl | (simp only [List.length_drop, List.length_take]; rfl)) ?_; (with_reducible refine (recover_Upto.calls _ _ y101 2 t104 _ ?side1 ?side2 A1.out).mono ?_); (case side1 => repeat (first | exact (Kd.S_reads' HO103.out).2.2 | (with_reducible refine Kd.C_alloc ?_ _) | (with_reducible refine Kd.C_drewN ?_ _) | (with_reducible refine Kd.C_drew ?_))); (case side2 => exact (Kd.S_reads' HO103.out).2.1); rintro e w65 ⟨v105, rfl, ho0, hb⟩; refine ⟨_, rfl, ?_⟩; have n0_ := Aside0.mk (Kd.S_elder' (by (with_reducible repeat (first | apply Kd.S_alloc | apply Kd.S_drewN | apply Kd.S_drew)); exact HO103.out) (Kd.S_base ho0) hb); have n1_ := Aside0.mk (Kd.S_lower (Kd.S_new' ho0 (Kd.S_lt (by (with_reducible repeat (first | apply Kd.S_alloc | apply Kd.S_drewN | apply Kd.S_drew)); exact HO103.out))) (below_size (by repeat (first | (with_reducible first | exact HB.out | apply below_alloc | apply pw_below_drewN | apply below_drew1) | exact HB.out)))); have n2_ := Aside0.mk (below_step (by repeat (first | (with_reducible first | exact HB.out | apply below_alloc | apply pw_below_drewN | apply below_drew1) | exact HB.out)) hb); clear HO103; clear HB; have HO103 := n0_; have HO106 := n1_; have HB := n2_; clear n0_ n1_ n2_; (try clear hb); (try clear hb2); (try clear hk); (try clear hi); (try clear ho0)) | ((with_reducible refine gate_callee (f := 12) rfl ?_); refine goesL_ (some 12) rfl rfl Try.func12 (by kernel_rfl) rfl #[.slice Ao64 y101.length co64, .int .u64 2, .int .u64 3] rfl (by (try simp only [List.map_toArray, List.map_cons, List.map_nil]); first | done | rfl | (simp only [List.length_drop, List.length_take]; rfl)) ?_; (with_reducible refine (recover_Changes.calls _ _ y101 2 3 t107 _ ?side1 ?side2 A2.out).mono ?_); (case side1 => repeat (first | exact (Kd.S_reads' HO103.out).2.2 | (with_reducible refine Kd.C_alloc ?_ _) | (with_reducible refine Kd.C_drewN ?_ _) | (with_reducible refine Kd.C_drew ?_))); (case side2 => exact (Kd.S_reads' HO103.out).2.1); rintro e w66 ⟨v108, rfl, ho0, hb⟩; refine ⟨_, rfl, ?_⟩; have n0_ := Aside0.mk (Kd.S_elder' (by (with_reducible repeat (first | apply Kd.S_alloc | apply Kd.S_drewN | apply Kd.S_drew)); exact HO103.out) (Kd.S_base ho0) hb); have n1_ := Aside0.mk (Kd.S_elder' (by (with_reducible repeat (first | apply Kd.S_alloc | apply Kd.S_drewN | apply Kd.S_drew)); exact HO106.out) (Kd.S_base ho0) hb); have n2_ := Aside0.mk (Kd.S_lower (Kd.S_new' (Kd.S_new' ho0 (Kd.S_lt (by (with_reducible repeat (first | apply Kd.S_alloc | apply Kd.S_drewN | apply Kd.S_drew)); exact HO103.out))) (Kd.S_lt (by (with_reducible repeat (first | apply Kd.S_alloc | apply Kd.S_drewN | apply Kd.S_drew)); exact HO106.out))) (below_size (by repeat (first | (with_reducible first | exact HB.out | apply below_alloc | apply pw_below_drewN | apply below_drew1) | exact HB.out)))); have n3_ := Aside0.mk (below_step (by repeat (first | (with_reducible first | exact HB.out | apply below_alloc | apply pw_below_drewN | apply below_drew1) | exact HB.out)) hb); clear HO103; clear HO106; clear HB; have HO103 := n0_; have HO106 := n1_; have HO109 := n2_; have HB := n3_; clear n0_ n1_ n2_ n3_; (try clear hb); (try clear hb2); (try clear hk); (try clear hi); (try clear ho0); obtain ⟨Ao67, co67, eo67⟩ := Kd.S_slice HO106.out; subst eo67))
    go_ret
    exact ⟨by first | rfl | (simp [errW_none, errW_some] <;> rfl) | (simp [*, errW_none, errW_some] <;> rfl), by repeat (first | (with_reducible first | exact HB.out | apply below_alloc | apply pw_below_drewN | apply below_drew1) | exact HB.out)⟩

/-! ### hayloftref10_Same: function 22 -/
mutual
def hayloftref10_Same.j0 : Nat → Bool → Int → Int → List (S36) → Int → Int → Int → List (S36) → Int → Option (Bool)
  | 0, _, _, _, _, _, _, _, _, _ => none
  | k + 1, x26, x123000, x123001, x123002, x123003, x124000, x124001, x124002, x124003 => if x26 = true then (some false) else (hayloftref10_Same.l0 k 0 x123000 x123001 x123002 x123003 x124000 x124001 x124002 x124003)
def hayloftref10_Same.l0 : Nat → Int → Int → Int → List (S36) → Int → Int → Int → List (S36) → Int → Option (Bool)
  | 0, _, _, _, _, _, _, _, _, _ => none
  | k + 1, x5, x123000, x123001, x123002, x123003, x124000, x124001, x124002, x124003 => if x5 < (x123002.length : Int) then (if 0 ≤ x5 then (if x5 < (x124002.length : Int) then (if (!(((rd_T36 x123002 x5).f0) == ((rd_T36 x124002 x5).f0)) || (!(((rd_T36 x123002 x5).f1) == ((rd_T36 x124002 x5).f1)) || (!(((rd_T36 x123002 x5).f2) == ((rd_T36 x124002 x5).f2)) || (!((((rd_T36 x123002 x5).f3).toList) == (((rd_T36 x124002 x5).f3).toList)))))) = true then (some false) else (hayloftref10_Same.l0 k (wrap64 (x5 + 1)) x123000 x123001 x123002 x123003 x124000 x124001 x124002 x124003)) else (none)) else (none)) else (some true)
end
def hayloftref10_Same.f (k : Nat) (a0_0 : Int) (a0_1 : Int) (l0_2 : List (S36)) (a0_3 : Int) (a1_0 : Int) (a1_1 : Int) (l1_2 : List (S36)) (a1_3 : Int) : Option (Bool) := if (!(a0_0 == a1_0) || (!(a0_1 == a1_1))) = true then (hayloftref10_Same.j0 k true a0_0 a0_1 l0_2 a0_3 a1_0 a1_1 l1_2 a1_3) else (if a0_3 = a1_3 then (hayloftref10_Same.j0 k ((l0_2.length : Int) != (l1_2.length : Int)) a0_0 a0_1 l0_2 a0_3 a1_0 a1_1 l1_2 a1_3) else (hayloftref10_Same.j0 k true a0_0 a0_1 l0_2 a0_3 a1_0 a1_1 l1_2 a1_3))
theorem hayloftref10_Same.mono_l : ∀ k, (∀ y0 y1 y2 y3 y4 y5 y6 y7 y8, LeO (hayloftref10_Same.j0 k y0 y1 y2 y3 y4 y5 y6 y7 y8) (hayloftref10_Same.j0 (k + 1) y0 y1 y2 y3 y4 y5 y6 y7 y8)) ∧ (∀ y0 y1 y2 y3 y4 y5 y6 y7 y8, LeO (hayloftref10_Same.l0 k y0 y1 y2 y3 y4 y5 y6 y7 y8) (hayloftref10_Same.l0 (k + 1) y0 y1 y2 y3 y4 y5 y6 y7 y8))
  | 0 => ⟨fun _ _ _ _ _ _ _ _ _ r h => by simp [hayloftref10_Same.j0] at h, fun _ _ _ _ _ _ _ _ _ r h => by simp [hayloftref10_Same.l0] at h⟩
  | k + 1 => by
    obtain ⟨ih0, ih1⟩ := hayloftref10_Same.mono_l k
    refine ⟨?_, ?_⟩
    · intro y0 y1 y2 y3 y4 y5 y6 y7 y8
      unfold hayloftref10_Same.j0
      repeat' first
      | (with_reducible exact ih0 _ _ _ _ _ _ _ _ _)
      | (with_reducible exact ih1 _ _ _ _ _ _ _ _ _)
      | (with_reducible exact LeO.refl _)
      | (with_reducible exact LeO.none _)
      | (with_reducible refine LeO.ite ?_ ?_)
      | (with_reducible refine LeO.bind ?_ (fun _ => ?_))
      | exact ih0 _ _ _ _ _ _ _ _ _
      | exact ih1 _ _ _ _ _ _ _ _ _
      | exact LeO.none _
      | refine LeO.ite ?_ ?_
      | refine LeO.bind ?_ (fun _ => ?_)
    · intro y0 y1 y2 y3 y4 y5 y6 y7 y8
      unfold hayloftref10_Same.l0
      repeat' first
      | (with_reducible exact ih0 _ _ _ _ _ _ _ _ _)
      | (with_reducible exact ih1 _ _ _ _ _ _ _ _ _)
      | (with_reducible exact LeO.refl _)
      | (with_reducible exact LeO.none _)
      | (with_reducible refine LeO.ite ?_ ?_)
      | (with_reducible refine LeO.bind ?_ (fun _ => ?_))
      | exact ih0 _ _ _ _ _ _ _ _ _
      | exact ih1 _ _ _ _ _ _ _ _ _
      | exact LeO.none _
      | refine LeO.ite ?_ ?_
      | refine LeO.bind ?_ (fun _ => ?_)
theorem hayloftref10_Same.mono : ∀ a0 a1 a2 a3 a4 a5 a6 a7 k, LeO (hayloftref10_Same.f k a0 a1 a2 a3 a4 a5 a6 a7) (hayloftref10_Same.f (k + 1) a0 a1 a2 a3 a4 a5 a6 a7) := by
  intro a0 a1 a2 a3 a4 a5 a6 a7 k
  obtain ⟨ih0, ih1⟩ := hayloftref10_Same.mono_l k
  unfold hayloftref10_Same.f
  repeat' first
      | (with_reducible exact ih0 _ _ _ _ _ _ _ _ _)
      | (with_reducible exact ih1 _ _ _ _ _ _ _ _ _)
      | (with_reducible exact LeO.refl _)
      | (with_reducible exact LeO.none _)
      | (with_reducible refine LeO.ite ?_ ?_)
      | (with_reducible refine LeO.bind ?_ (fun _ => ?_))
      | exact ih0 _ _ _ _ _ _ _ _ _
      | exact ih1 _ _ _ _ _ _ _ _ _
      | exact LeO.none _
      | refine LeO.ite ?_ ?_
      | refine LeO.bind ?_ (fun _ => ?_)
set_option maxHeartbeats 8000000 in
set_option maxRecDepth 100000 in
theorem hayloftref10_Same.calls (k : Nat) (a0_0 : Int) (a0_1 : Int) (A0_2 : Option Addr) (c0_2 : Nat) (l0_2 : List (S36)) (a0_3 : Int) (a1_0 : Int) (a1_1 : Int) (A1_2 : Option Addr) (c1_2 : Nat) (l1_2 : List (S36)) (a1_3 : Int) (r : Bool) (w : World) (hr0_2 : Kd.C k36 w A0_2 l0_2.length l0_2) (hc0_2 : l0_2.length ≤ c0_2) (hr1_2 : Kd.C k36 w A1_2 l1_2.length l1_2) (hc1_2 : l1_2.length ≤ c1_2) (h : hayloftref10_Same.f k a0_0 a0_1 l0_2 a0_3 a1_0 a1_1 l1_2 a1_3 = some r) :
    Calls Try.prog 22 #[.agg #[.int .u64 a0_0, .int .u32 a0_1, .slice A0_2 l0_2.length c0_2, .int .u64 a0_3], .agg #[.int .u64 a1_0, .int .u32 a1_1, .slice A1_2 l1_2.length c1_2, .int .u64 a1_3]] w fun e w' => e = .returned (.bool r) ∧ Below w.heap.size w w' := by
  have hu34 := Try.underlying34
  have hu31 := Try.underlying31
  have hu36 := Try.underlying36
  have HR0_2 := Aside0.mk hr0_2
  have HC0_2 := Aside0.mk hc0_2
  clear hr0_2 hc0_2
  have HR1_2 := Aside0.mk hr1_2
  have HC1_2 := Aside0.mk hc1_2
  clear hr1_2 hc1_2
  have HB := Aside0.mk (Below.refl w.heap.size w)
  have H : (if (!(a0_0 == a1_0) || (!(a0_1 == a1_1))) = true then (hayloftref10_Same.j0 k true a0_0 a0_1 l0_2 a0_3 a1_0 a1_1 l1_2 a1_3) else (if a0_3 = a1_3 then (hayloftref10_Same.j0 k ((l0_2.length : Int) != (l1_2.length : Int)) a0_0 a0_1 l0_2 a0_3 a1_0 a1_1 l1_2 a1_3) else (hayloftref10_Same.j0 k true a0_0 a0_1 l0_2 a0_3 a1_0 a1_1 l1_2 a1_3))) = some r := h
  clear h
  have HC3 := Aside0.mk H
  clear H
  go_enter Try.func22, Try.ntmps22
  go_upto_region 1 with (first | ((with_reducible refine gate_dst (N := 2) rfl ?_); (try (refine gate_guard (by rfl) ?_; dsimp only)); refine box_event ?hg (N := 2) ?hd (cs := #[.int .u64 a0_0, .int .u32 a0_1, .slice A0_2 l0_2.length c0_2, .int .u64 a0_3]) (t := 34) ?hr ?_; (case hd => rfl); (case hg => rfl); (case hr => first | (go_simp; done) | (go_simp; rfl)); intro gb122 hg w4 hbox hb; have n0_ := Aside0.mk (below_step (by repeat (first | (with_reducible first | exact HB.out | apply below_alloc | apply pw_below_drewN | apply below_drew1) | exact HB.out)) hb); have n1_ := Aside0.mk (hbox); have n2_ := Aside0.mk ((by rw [hg]; exact (below_size (by repeat (first | (with_reducible first | exact HB.out | apply below_alloc | apply pw_below_drewN | apply below_drew1) | exact HB.out))) : w.heap.size ≤ gb122)); have n3_ := Aside0.mk ((by rw [hg]; exact (below_size (by repeat (first | (with_reducible first | exact HB.out | apply below_alloc | apply pw_below_drewN | apply below_drew1) | exact HB.out))) : w.heap.size ≤ gb122)); clear HB; have HB := n0_; have BK122 := n1_; have GW122 := n2_; have GE122 := n3_; clear n0_ n1_ n2_ n3_; clear hb hbox hg) | ((with_reducible refine gate_dst (N := 3) rfl ?_); (try (refine gate_guard (by rfl) ?_; dsimp only)); refine box_event ?hg (N := 3) ?hd (cs := #[.int .u64 a1_0, .int .u32 a1_1, .slice A1_2 l1_2.length c1_2, .int .u64 a1_3]) (t := 34) ?hr ?_; (case hd => rfl); (case hg => rfl); (case hr => first | (go_simp; done) | (go_simp; rfl)); intro gb123 hg w5 hbox hb; have n0_ := Aside0.mk (blk_below (g := gb122) (o := .cells #[.int .u64 a0_0, .int .u32 a0_1, .slice A0_2 l0_2.length c0_2, .int .u64 a0_3] 34 (0, 0)) (by (with_reducible repeat (first | refine blk_drewN ?_ _ | refine blk_drew ?_ | refine blk_alloc ?_ _)); exact BK122.out) hb); have n1_ := Aside0.mk (below_step (by repeat (first | (with_reducible first | exact HB.out | apply below_alloc | apply pw_below_drewN | apply below_drew1 | refine below_set ?_ GE122.out) | exact HB.out)) hb); have n2_ := Aside0.mk (hbox); have n3_ := Aside0.mk ((by rw [hg]; exact (below_size (by repeat (first | (with_reducible first | exact HB.out | apply below_alloc | apply pw_below_drewN | apply below_drew1 | refine below_set ?_ GE122.out) | exact HB.out))) : w.heap.size ≤ gb123)); have n4_ := Aside0.mk ((by rw [hg]; exact (below_size (by repeat (first | (with_reducible first | exact HB.out | apply below_alloc | apply pw_below_drewN | apply below_drew1 | refine below_set ?_ GE122.out) | exact HB.out))) : w.heap.size ≤ gb123)); have n5_ := Aside0.mk ((by rw [hg]; exact Nat.ne_of_lt (blk_lt (g := gb122) (o := .cells #[.int .u64 a0_0, .int .u32 a0_1, .slice A0_2 l0_2.length c0_2, .int .u64 a0_3] 34 (0, 0)) (by (with_reducible repeat (first | refine blk_drewN ?_ _ | refine blk_drew ?_ | refine blk_alloc ?_ _)); exact BK122.out)) : gb122 ≠ gb123)); have n6_ := Aside0.mk ((by rw [hg]; exact Nat.ne_of_gt (blk_lt (g := gb122) (o := .cells #[.int .u64 a0_0, .int .u32 a0_1, .slice A0_2 l0_2.length c0_2, .int .u64 a0_3] 34 (0, 0)) (by (with_reducible repeat (first | refine blk_drewN ?_ _ | refine blk_drew ?_ | refine blk_alloc ?_ _)); exact BK122.out)) : gb123 ≠ gb122)); clear BK122; clear HB; have BK122 := n0_; have HB := n1_; have BK123 := n2_; have GW123 := n3_; have GE123 := n4_; have NB122_123 := n5_; have NB123_122 := n6_; clear n0_ n1_ n2_ n3_ n4_ n5_ n6_; clear hb hbox hg))
  repeat (go_quiet (first | ((with_reducible refine gate_dst (N := 2) rfl ?_); (try (refine gate_guard (by rfl) ?_; dsimp only)); refine box_event ?hg (N := 2) ?hd (cs := #[.int .u64 a0_0, .int .u32 a0_1, .slice A0_2 l0_2.length c0_2, .int .u64 a0_3]) (t := 34) ?hr ?_; (case hd => rfl); (case hg => rfl); (case hr => first | (go_simp; done) | (go_simp; rfl)); intro gb122 hg w4 hbox hb; have n0_ := Aside0.mk (below_step (by repeat (first | (with_reducible first | exact HB.out | apply below_alloc | apply pw_below_drewN | apply below_drew1) | exact HB.out)) hb); have n1_ := Aside0.mk (hbox); have n2_ := Aside0.mk ((by rw [hg]; exact (below_size (by repeat (first | (with_reducible first | exact HB.out | apply below_alloc | apply pw_below_drewN | apply below_drew1) | exact HB.out))) : w.heap.size ≤ gb122)); have n3_ := Aside0.mk ((by rw [hg]; exact (below_size (by repeat (first | (with_reducible first | exact HB.out | apply below_alloc | apply pw_below_drewN | apply below_drew1) | exact HB.out))) : w.heap.size ≤ gb122)); clear HB; have HB := n0_; have BK122 := n1_; have GW122 := n2_; have GE122 := n3_; clear n0_ n1_ n2_ n3_; clear hb hbox hg) | ((with_reducible refine gate_dst (N := 3) rfl ?_); (try (refine gate_guard (by rfl) ?_; dsimp only)); refine box_event ?hg (N := 3) ?hd (cs := #[.int .u64 a1_0, .int .u32 a1_1, .slice A1_2 l1_2.length c1_2, .int .u64 a1_3]) (t := 34) ?hr ?_; (case hd => rfl); (case hg => rfl); (case hr => first | (go_simp; done) | (go_simp; rfl)); intro gb123 hg w5 hbox hb; have n0_ := Aside0.mk (blk_below (g := gb122) (o := .cells #[.int .u64 a0_0, .int .u32 a0_1, .slice A0_2 l0_2.length c0_2, .int .u64 a0_3] 34 (0, 0)) (by (with_reducible repeat (first | refine blk_drewN ?_ _ | refine blk_drew ?_ | refine blk_alloc ?_ _)); exact BK122.out) hb); have n1_ := Aside0.mk (below_step (by repeat (first | (with_reducible first | exact HB.out | apply below_alloc | apply pw_below_drewN | apply below_drew1 | refine below_set ?_ GE122.out) | exact HB.out)) hb); have n2_ := Aside0.mk (hbox); have n3_ := Aside0.mk ((by rw [hg]; exact (below_size (by repeat (first | (with_reducible first | exact HB.out | apply below_alloc | apply pw_below_drewN | apply below_drew1 | refine below_set ?_ GE122.out) | exact HB.out))) : w.heap.size ≤ gb123)); have n4_ := Aside0.mk ((by rw [hg]; exact (below_size (by repeat (first | (with_reducible first | exact HB.out | apply below_alloc | apply pw_below_drewN | apply below_drew1 | refine below_set ?_ GE122.out) | exact HB.out))) : w.heap.size ≤ gb123)); have n5_ := Aside0.mk ((by rw [hg]; exact Nat.ne_of_lt (blk_lt (g := gb122) (o := .cells #[.int .u64 a0_0, .int .u32 a0_1, .slice A0_2 l0_2.length c0_2, .int .u64 a0_3] 34 (0, 0)) (by (with_reducible repeat (first | refine blk_drewN ?_ _ | refine blk_drew ?_ | refine blk_alloc ?_ _)); exact BK122.out)) : gb122 ≠ gb123)); have n6_ := Aside0.mk ((by rw [hg]; exact Nat.ne_of_gt (blk_lt (g := gb122) (o := .cells #[.int .u64 a0_0, .int .u32 a0_1, .slice A0_2 l0_2.length c0_2, .int .u64 a0_3] 34 (0, 0)) (by (with_reducible repeat (first | refine blk_drewN ?_ _ | refine blk_drew ?_ | refine blk_alloc ?_ _)); exact BK122.out)) : gb123 ≠ gb122)); clear BK122; clear HB; have BK122 := n0_; have HB := n1_; have BK123 := n2_; have GW123 := n3_; have GE123 := n4_; have NB122_123 := n5_; have NB123_122 := n6_; clear n0_ n1_ n2_ n3_ n4_ n5_ n6_; clear hb hbox hg)); go_upto_region 1 with (first | ((with_reducible refine gate_dst (N := 2) rfl ?_); (try (refine gate_guard (by rfl) ?_; dsimp only)); refine box_event ?hg (N := 2) ?hd (cs := #[.int .u64 a0_0, .int .u32 a0_1, .slice A0_2 l0_2.length c0_2, .int .u64 a0_3]) (t := 34) ?hr ?_; (case hd => rfl); (case hg => rfl); (case hr => first | (go_simp; done) | (go_simp; rfl)); intro gb122 hg w4 hbox hb; have n0_ := Aside0.mk (below_step (by repeat (first | (with_reducible first | exact HB.out | apply below_alloc | apply pw_below_drewN | apply below_drew1) | exact HB.out)) hb); have n1_ := Aside0.mk (hbox); have n2_ := Aside0.mk ((by rw [hg]; exact (below_size (by repeat (first | (with_reducible first | exact HB.out | apply below_alloc | apply pw_below_drewN | apply below_drew1) | exact HB.out))) : w.heap.size ≤ gb122)); have n3_ := Aside0.mk ((by rw [hg]; exact (below_size (by repeat (first | (with_reducible first | exact HB.out | apply below_alloc | apply pw_below_drewN | apply below_drew1) | exact HB.out))) : w.heap.size ≤ gb122)); clear HB; have HB := n0_; have BK122 := n1_; have GW122 := n2_; have GE122 := n3_; clear n0_ n1_ n2_ n3_; clear hb hbox hg) | ((with_reducible refine gate_dst (N := 3) rfl ?_); (try (refine gate_guard (by rfl) ?_; dsimp only)); refine box_event ?hg (N := 3) ?hd (cs := #[.int .u64 a1_0, .int .u32 a1_1, .slice A1_2 l1_2.length c1_2, .int .u64 a1_3]) (t := 34) ?hr ?_; (case hd => rfl); (case hg => rfl); (case hr => first | (go_simp; done) | (go_simp; rfl)); intro gb123 hg w5 hbox hb; have n0_ := Aside0.mk (blk_below (g := gb122) (o := .cells #[.int .u64 a0_0, .int .u32 a0_1, .slice A0_2 l0_2.length c0_2, .int .u64 a0_3] 34 (0, 0)) (by (with_reducible repeat (first | refine blk_drewN ?_ _ | refine blk_drew ?_ | refine blk_alloc ?_ _)); exact BK122.out) hb); have n1_ := Aside0.mk (below_step (by repeat (first | (with_reducible first | exact HB.out | apply below_alloc | apply pw_below_drewN | apply below_drew1 | refine below_set ?_ GE122.out) | exact HB.out)) hb); have n2_ := Aside0.mk (hbox); have n3_ := Aside0.mk ((by rw [hg]; exact (below_size (by repeat (first | (with_reducible first | exact HB.out | apply below_alloc | apply pw_below_drewN | apply below_drew1 | refine below_set ?_ GE122.out) | exact HB.out))) : w.heap.size ≤ gb123)); have n4_ := Aside0.mk ((by rw [hg]; exact (below_size (by repeat (first | (with_reducible first | exact HB.out | apply below_alloc | apply pw_below_drewN | apply below_drew1 | refine below_set ?_ GE122.out) | exact HB.out))) : w.heap.size ≤ gb123)); have n5_ := Aside0.mk ((by rw [hg]; exact Nat.ne_of_lt (blk_lt (g := gb122) (o := .cells #[.int .u64 a0_0, .int .u32 a0_1, .slice A0_2 l0_2.length c0_2, .int .u64 a0_3] 34 (0, 0)) (by (with_reducible repeat (first | refine blk_drewN ?_ _ | refine blk_drew ?_ | refine blk_alloc ?_ _)); exact BK122.out)) : gb122 ≠ gb123)); have n6_ := Aside0.mk ((by rw [hg]; exact Nat.ne_of_gt (blk_lt (g := gb122) (o := .cells #[.int .u64 a0_0, .int .u32 a0_1, .slice A0_2 l0_2.length c0_2, .int .u64 a0_3] 34 (0, 0)) (by (with_reducible repeat (first | refine blk_drewN ?_ _ | refine blk_drew ?_ | refine blk_alloc ?_ _)); exact BK122.out)) : gb123 ≠ gb122)); clear BK122; clear HB; have BK122 := n0_; have HB := n1_; have BK123 := n2_; have GW123 := n3_; have GE123 := n4_; have NB122_123 := n5_; have NB123_122 := n6_; clear n0_ n1_ n2_ n3_ n4_ n5_ n6_; clear hb hbox hg)))
  (try simp only [Act.put, List.setIfInBounds_toArray, List.set_cons_zero, List.set_cons_succ])
  go_cut [26] (fun v26 wc => ∃ (kq : Nat) (x26_2 : Bool), v26 = .bool x26_2 ∧ Aside0 (hayloftref10_Same.j0 kq x26_2 a0_0 a0_1 l0_2 a0_3 a1_0 a1_1 l1_2 a1_3 = some r) ∧ Aside0 (kq ≤ k) ∧ Aside0 (wc.heap[gb122]? = some (.cells #[.int .u64 a0_0, .int .u32 a0_1, (.slice A0_2 l0_2.length c0_2), .int .u64 a0_3] 34 (0, 0))) ∧ Aside0 (wc.heap[gb123]? = some (.cells #[.int .u64 a1_0, .int .u32 a1_1, (.slice A1_2 l1_2.length c1_2), .int .u64 a1_3] 34 (0, 0))) ∧ Aside0 (Below w.heap.size w wc))
  case first =>
    have H := HC3.out
    clear HC3
    by_cases c6 : (!(a0_0 == a1_0) || (!(a0_1 == a1_1))) = true
    · rw [if_pos c6] at H
      have c6b0 : (!(a0_0 == a1_0) || (!(a0_1 == a1_1))) = true := c6
      clear c6
      (first | rw [c6b0] | (simp only [i64_w, i32_w]; rw [c6b0]) | skip)
      have H' := Aside0.mk H
      clear H
      have hnb7 := NB122_123.out
      have hnc7 := NB123_122.out
      have hcz8_0 : w5.cell? ⟨gb122, 0, none⟩ = some (.int .u64 a0_0) := (blk_cell BK122.out 0).trans rfl
      have hcz8_1 : w5.cell? ⟨gb122, 1, none⟩ = some (.int .u32 a0_1) := (blk_cell BK122.out 1).trans rfl
      have hcz8_2 : w5.cell? ⟨gb122, 2, none⟩ = some (.slice A0_2 l0_2.length c0_2) := (blk_cell BK122.out 2).trans rfl
      have hcz8_3 : w5.cell? ⟨gb122, 3, none⟩ = some (.int .u64 a0_3) := (blk_cell BK122.out 3).trans rfl
      have hfz8_0 := blk_frozen BK122.out 0
      have hfz8_1 := blk_frozen BK122.out 1
      have hfz8_2 := blk_frozen BK122.out 2
      have hfz8_3 := blk_frozen BK122.out 3
      have hcz9_0 : w5.cell? ⟨gb123, 0, none⟩ = some (.int .u64 a1_0) := (blk_cell BK123.out 0).trans rfl
      have hcz9_1 : w5.cell? ⟨gb123, 1, none⟩ = some (.int .u32 a1_1) := (blk_cell BK123.out 1).trans rfl
      have hcz9_2 : w5.cell? ⟨gb123, 2, none⟩ = some (.slice A1_2 l1_2.length c1_2) := (blk_cell BK123.out 2).trans rfl
      have hcz9_3 : w5.cell? ⟨gb123, 3, none⟩ = some (.int .u64 a1_3) := (blk_cell BK123.out 3).trans rfl
      have hfz9_0 := blk_frozen BK123.out 0
      have hfz9_1 := blk_frozen BK123.out 1
      have hfz9_2 := blk_frozen BK123.out 2
      have hfz9_3 := blk_frozen BK123.out 3
      go_wp2
      repeat (go_quiet (fail); try go_wp2)
      go_meet
      case rel => exact ⟨_, (true), (by first | rfl | (simp; done) | (simp [*]; done)), H', ⟨by first | omega | exact Nat.le_refl _⟩, ⟨by (with_reducible repeat (first | refine blk_drewN ?_ _ | refine blk_drew ?_ | refine blk_alloc ?_ _)); exact BK122.out⟩, ⟨by (with_reducible repeat (first | refine blk_drewN ?_ _ | refine blk_drew ?_ | refine blk_alloc ?_ _)); exact BK123.out⟩, ⟨by repeat (first | (with_reducible first | exact HB.out | apply below_alloc | apply pw_below_drewN | apply below_drew1 | refine below_set ?_ GE122.out | refine below_set ?_ GE123.out) | exact HB.out)⟩⟩
    · rw [if_neg c6] at H
      have c6b0 : (!(a0_0 == a1_0) || (!(a0_1 == a1_1))) = false := by simpa using c6
      clear c6
      (first | rw [c6b0] | (simp only [i64_w, i32_w]; rw [c6b0]) | skip)
      by_cases c10 : a0_3 = a1_3
      · rw [if_pos c10] at H
        have c10b0 : (a0_3 == a1_3) = true := beq_iff_eq.mpr c10
        have c10b1 : (a0_3 != a1_3) = false := bne_eq_false_iff_eq.mpr c10
        clear c10
        have H' := Aside0.mk H
        clear H
        have hnb11 := NB122_123.out
        have hnc11 := NB123_122.out
        have hcz12_0 : w5.cell? ⟨gb122, 0, none⟩ = some (.int .u64 a0_0) := (blk_cell BK122.out 0).trans rfl
        have hcz12_1 : w5.cell? ⟨gb122, 1, none⟩ = some (.int .u32 a0_1) := (blk_cell BK122.out 1).trans rfl
        have hcz12_2 : w5.cell? ⟨gb122, 2, none⟩ = some (.slice A0_2 l0_2.length c0_2) := (blk_cell BK122.out 2).trans rfl
        have hcz12_3 : w5.cell? ⟨gb122, 3, none⟩ = some (.int .u64 a0_3) := (blk_cell BK122.out 3).trans rfl
        have hfz12_0 := blk_frozen BK122.out 0
        have hfz12_1 := blk_frozen BK122.out 1
        have hfz12_2 := blk_frozen BK122.out 2
        have hfz12_3 := blk_frozen BK122.out 3
        have hcz13_0 : w5.cell? ⟨gb123, 0, none⟩ = some (.int .u64 a1_0) := (blk_cell BK123.out 0).trans rfl
        have hcz13_1 : w5.cell? ⟨gb123, 1, none⟩ = some (.int .u32 a1_1) := (blk_cell BK123.out 1).trans rfl
        have hcz13_2 : w5.cell? ⟨gb123, 2, none⟩ = some (.slice A1_2 l1_2.length c1_2) := (blk_cell BK123.out 2).trans rfl
        have hcz13_3 : w5.cell? ⟨gb123, 3, none⟩ = some (.int .u64 a1_3) := (blk_cell BK123.out 3).trans rfl
        have hfz13_0 := blk_frozen BK123.out 0
        have hfz13_1 := blk_frozen BK123.out 1
        have hfz13_2 := blk_frozen BK123.out 2
        have hfz13_3 := blk_frozen BK123.out 3
        go_wp2
        repeat (go_quiet (fail); try go_wp2)
        go_meet
        case rel => exact ⟨_, (((l0_2.length : Int) != (l1_2.length : Int))), (by first | rfl | (simp; done) | (simp [*]; done)), H', ⟨by first | omega | exact Nat.le_refl _⟩, ⟨by (with_reducible repeat (first | refine blk_drewN ?_ _ | refine blk_drew ?_ | refine blk_alloc ?_ _)); exact BK122.out⟩, ⟨by (with_reducible repeat (first | refine blk_drewN ?_ _ | refine blk_drew ?_ | refine blk_alloc ?_ _)); exact BK123.out⟩, ⟨by repeat (first | (with_reducible first | exact HB.out | apply below_alloc | apply pw_below_drewN | apply below_drew1 | refine below_set ?_ GE122.out | refine below_set ?_ GE123.out) | exact HB.out)⟩⟩
      · rw [if_neg c10] at H
        have c10b0 : (a0_3 == a1_3) = false := beq_eq_false_iff_ne.mpr c10
        have c10b1 : (a0_3 != a1_3) = true := bne_iff_ne.mpr c10
        have H' := Aside0.mk H
        clear H
        have hnb14 := NB122_123.out
        have hnc14 := NB123_122.out
        have hcz15_0 : w5.cell? ⟨gb122, 0, none⟩ = some (.int .u64 a0_0) := (blk_cell BK122.out 0).trans rfl
        have hcz15_1 : w5.cell? ⟨gb122, 1, none⟩ = some (.int .u32 a0_1) := (blk_cell BK122.out 1).trans rfl
        have hcz15_2 : w5.cell? ⟨gb122, 2, none⟩ = some (.slice A0_2 l0_2.length c0_2) := (blk_cell BK122.out 2).trans rfl
        have hcz15_3 : w5.cell? ⟨gb122, 3, none⟩ = some (.int .u64 a0_3) := (blk_cell BK122.out 3).trans rfl
        have hfz15_0 := blk_frozen BK122.out 0
        have hfz15_1 := blk_frozen BK122.out 1
        have hfz15_2 := blk_frozen BK122.out 2
        have hfz15_3 := blk_frozen BK122.out 3
        have hcz16_0 : w5.cell? ⟨gb123, 0, none⟩ = some (.int .u64 a1_0) := (blk_cell BK123.out 0).trans rfl
        have hcz16_1 : w5.cell? ⟨gb123, 1, none⟩ = some (.int .u32 a1_1) := (blk_cell BK123.out 1).trans rfl
        have hcz16_2 : w5.cell? ⟨gb123, 2, none⟩ = some (.slice A1_2 l1_2.length c1_2) := (blk_cell BK123.out 2).trans rfl
        have hcz16_3 : w5.cell? ⟨gb123, 3, none⟩ = some (.int .u64 a1_3) := (blk_cell BK123.out 3).trans rfl
        have hfz16_0 := blk_frozen BK123.out 0
        have hfz16_1 := blk_frozen BK123.out 1
        have hfz16_2 := blk_frozen BK123.out 2
        have hfz16_3 := blk_frozen BK123.out 3
        go_wp2
        repeat (go_quiet (fail); try go_wp2)
        go_meet
        case rel => exact ⟨_, (true), (by first | rfl | (simp; done) | (simp [*]; done)), H', ⟨by first | omega | exact Nat.le_refl _⟩, ⟨by (with_reducible repeat (first | refine blk_drewN ?_ _ | refine blk_drew ?_ | refine blk_alloc ?_ _)); exact BK122.out⟩, ⟨by (with_reducible repeat (first | refine blk_drewN ?_ _ | refine blk_drew ?_ | refine blk_alloc ?_ _)); exact BK123.out⟩, ⟨by repeat (first | (with_reducible first | exact HB.out | apply below_alloc | apply pw_below_drewN | apply below_drew1 | refine below_set ?_ GE122.out | refine below_set ?_ GE123.out) | exact HB.out)⟩⟩
  case rest =>
    clear HC3
    try clear c1
    try clear c2
    try clear p2
    try clear c6
    try clear c6b0
    try clear c7
    try clear c10
    try clear c10b0
    try clear c10b1
    try clear c11
    try clear c14
    try clear hcz12_0
    try clear hcz12_1
    try clear hcz12_2
    try clear hcz12_3
    try clear hcz13_0
    try clear hcz13_1
    try clear hcz13_2
    try clear hcz13_3
    try clear hcz15_0
    try clear hcz15_1
    try clear hcz15_2
    try clear hcz15_3
    try clear hcz16_0
    try clear hcz16_1
    try clear hcz16_2
    try clear hcz16_3
    try clear hcz8_0
    try clear hcz8_1
    try clear hcz8_2
    try clear hcz8_3
    try clear hcz9_0
    try clear hcz9_1
    try clear hcz9_2
    try clear hcz9_3
    try clear hfz12_0
    try clear hfz12_1
    try clear hfz12_2
    try clear hfz12_3
    try clear hfz13_0
    try clear hfz13_1
    try clear hfz13_2
    try clear hfz13_3
    try clear hfz15_0
    try clear hfz15_1
    try clear hfz15_2
    try clear hfz15_3
    try clear hfz16_0
    try clear hfz16_1
    try clear hfz16_2
    try clear hfz16_3
    try clear hfz8_0
    try clear hfz8_1
    try clear hfz8_2
    try clear hfz8_3
    try clear hfz9_0
    try clear hfz9_1
    try clear hfz9_2
    try clear hfz9_3
    obtain ⟨kq, x26_2, rfl, HA, HJ2, BK122, BK123, HB⟩ := hcut
    cases kq with
    | zero => exact absurd HA.out (by simp [hayloftref10_Same.j0])
    | succ kj2 =>
      have H := HA.out
      clear HA
      simp only [hayloftref10_Same.j0] at H
      by_cases c17 : x26_2 = true
      · subst c17
        have H1 : (some false) = some r := by rw [if_pos rfl] at H; exact H
        clear H
        have H := H1
        clear H1
        obtain rfl := Option.some.inj H
        go_wp2
        repeat (go_quiet (fail); try go_wp2)
        go_ret
        exact ⟨by first | rfl | (simp [errW_none, errW_some] <;> rfl) | (simp [*, errW_none, errW_some] <;> rfl), by repeat (first | (with_reducible first | exact HB.out | apply below_alloc | apply pw_below_drewN | apply below_drew1 | refine below_set ?_ GE122.out | refine below_set ?_ GE123.out) | exact HB.out)⟩
      · replace c17 := Bool.eq_false_iff.mpr c17
        subst c17
        have H1 : (hayloftref10_Same.l0 kj2 0 a0_0 a0_1 l0_2 a0_3 a1_0 a1_1 l1_2 a1_3) = some r := by rw [if_neg (show ¬ (false = true) by decide)] at H; exact H
        clear H
        have H := H1
        clear H1
        have H' := Aside0.mk H
        clear H
        go_wp2
        repeat (go_quiet (fail); try go_wp2)
        go_loopg [5] kj2 (fun kq v5 w' => ∃ (x5_2 : Int), v5 = .int .i64 x5_2 ∧ Aside0 (hayloftref10_Same.l0 kq x5_2 a0_0 a0_1 l0_2 a0_3 a1_0 a1_1 l1_2 a1_3 = some r) ∧ Aside0 (kq ≤ kj2) ∧ Aside0 (w'.heap[gb122]? = some (.cells #[.int .u64 a0_0, .int .u32 a0_1, (.slice A0_2 l0_2.length c0_2), .int .u64 a0_3] 34 (0, 0))) ∧ Aside0 (w'.heap[gb123]? = some (.cells #[.int .u64 a1_0, .int .u32 a1_1, (.slice A1_2 l1_2.length c1_2), .int .u64 a1_3] 34 (0, 0))) ∧ Aside0 (Below w.heap.size w w'))
        case atStart => exact ⟨(0), (by first | rfl | (simp; done) | (simp [*]; done)), H', ⟨Nat.le_refl _⟩, ⟨by (with_reducible repeat (first | refine blk_drewN ?_ _ | refine blk_drew ?_ | refine blk_alloc ?_ _)); exact BK122.out⟩, ⟨by (with_reducible repeat (first | refine blk_drewN ?_ _ | refine blk_drew ?_ | refine blk_alloc ?_ _)); exact BK123.out⟩, ⟨by repeat (first | (with_reducible first | exact HB.out | apply below_alloc | apply pw_below_drewN | apply below_drew1 | refine below_set ?_ GE122.out | refine below_set ?_ GE123.out) | exact HB.out)⟩⟩
        case round =>
          clear H'
          try clear c1
          try clear c2
          try clear p2
          try clear c6
          try clear c6b0
          try clear c7
          try clear c10
          try clear c10b0
          try clear c10b1
          try clear c11
          try clear c14
          try clear c17
          try clear hcz12_0
          try clear hcz12_1
          try clear hcz12_2
          try clear hcz12_3
          try clear hcz13_0
          try clear hcz13_1
          try clear hcz13_2
          try clear hcz13_3
          try clear hcz15_0
          try clear hcz15_1
          try clear hcz15_2
          try clear hcz15_3
          try clear hcz16_0
          try clear hcz16_1
          try clear hcz16_2
          try clear hcz16_3
          try clear hcz8_0
          try clear hcz8_1
          try clear hcz8_2
          try clear hcz8_3
          try clear hcz9_0
          try clear hcz9_1
          try clear hcz9_2
          try clear hcz9_3
          try clear hfz12_0
          try clear hfz12_1
          try clear hfz12_2
          try clear hfz12_3
          try clear hfz13_0
          try clear hfz13_1
          try clear hfz13_2
          try clear hfz13_3
          try clear hfz15_0
          try clear hfz15_1
          try clear hfz15_2
          try clear hfz15_3
          try clear hfz16_0
          try clear hfz16_1
          try clear hfz16_2
          try clear hfz16_3
          try clear hfz8_0
          try clear hfz8_1
          try clear hfz8_2
          try clear hfz8_3
          try clear hfz9_0
          try clear hfz9_1
          try clear hfz9_2
          try clear hfz9_3
          try clear p2
          obtain ⟨x5_2, rfl, HA, HK2, BK122, BK123, HB⟩ := hrel
          cases gk with
          | zero => exact absurd HA.out (by simp [hayloftref10_Same.l0])
          | succ k2 =>
            have H := HA.out
            clear HA
            simp only [hayloftref10_Same.l0] at H
            by_cases c18 : x5_2 < (l0_2.length : Int)
            · rw [if_pos c18] at H
              have c18b0 : decide (x5_2 < (l0_2.length : Int)) = true := decide_eq_true c18
              clear c18
              by_cases c19 : 0 ≤ x5_2
              · rw [if_pos c19] at H
                have c19b0 : decide (0 ≤ x5_2) = true := decide_eq_true c19
                clear c19
                by_cases c20 : x5_2 < (l1_2.length : Int)
                · rw [if_pos c20] at H
                  have c20b0 : decide (x5_2 < (l1_2.length : Int)) = true := decide_eq_true c20
                  clear c20
                  by_cases c21 : (!(((rd_T36 l0_2 x5_2).f0) == ((rd_T36 l1_2 x5_2).f0)) || (!(((rd_T36 l0_2 x5_2).f1) == ((rd_T36 l1_2 x5_2).f1)) || (!(((rd_T36 l0_2 x5_2).f2) == ((rd_T36 l1_2 x5_2).f2)) || (!((((rd_T36 l0_2 x5_2).f3).toList) == (((rd_T36 l1_2 x5_2).f3).toList)))))) = true
                  · rw [if_pos c21] at H
                    have c21b0 : (!(((rd_T36 l0_2 x5_2).f0) == ((rd_T36 l1_2 x5_2).f0)) || (!(((rd_T36 l0_2 x5_2).f1) == ((rd_T36 l1_2 x5_2).f1)) || (!(((rd_T36 l0_2 x5_2).f2) == ((rd_T36 l1_2 x5_2).f2)) || (!((((rd_T36 l0_2 x5_2).f3).toList) == (((rd_T36 l1_2 x5_2).f3).toList)))))) = true := c21
                    clear c21
                    obtain rfl := Option.some.inj H
                    have hnb22 := NB122_123.out
                    have hnc22 := NB123_122.out
                    have hcz23_0 : wr.cell? ⟨gb122, 0, none⟩ = some (.int .u64 a0_0) := (blk_cell BK122.out 0).trans rfl
                    have hcz23_1 : wr.cell? ⟨gb122, 1, none⟩ = some (.int .u32 a0_1) := (blk_cell BK122.out 1).trans rfl
                    have hcz23_2 : wr.cell? ⟨gb122, 2, none⟩ = some (.slice A0_2 l0_2.length c0_2) := (blk_cell BK122.out 2).trans rfl
                    have hcz23_3 : wr.cell? ⟨gb122, 3, none⟩ = some (.int .u64 a0_3) := (blk_cell BK122.out 3).trans rfl
                    have hfz23_0 := blk_frozen BK122.out 0
                    have hfz23_1 := blk_frozen BK122.out 1
                    have hfz23_2 := blk_frozen BK122.out 2
                    have hfz23_3 := blk_frozen BK122.out 3
                    have p124 : 0 ≤ (x5_2 : Int) := of_decide_eq_true (by first | (with_reducible assumption) | assumption)
                    have q124 : x5_2 < (l0_2.length : Int) := of_decide_eq_true (by first | (with_reducible assumption) | assumption)
                    obtain ⟨ad124, e124, hx124_0, hx124_1, hx124_2, hx124_3⟩ := at_T36 HR0_2.out x5_2 p124 q124
                    cases e124
                    replace hx124_0 := (HB.out.cell (World.block_lt_of_cell? w _ hx124_0)).trans hx124_0
                    replace hx124_1 := (HB.out.cell (World.block_lt_of_cell? w _ hx124_1)).trans hx124_1
                    replace hx124_2 := (HB.out.cell (World.block_lt_of_cell? w _ hx124_2)).trans hx124_2
                    replace hx124_3 := (HB.out.cell (World.block_lt_of_cell? w _ hx124_3)).trans hx124_3
                    replace p124 := eq_true p124
                    replace q124 := eq_true q124
                    have hcz24_0 : wr.cell? ⟨gb123, 0, none⟩ = some (.int .u64 a1_0) := (blk_cell BK123.out 0).trans rfl
                    have hcz24_1 : wr.cell? ⟨gb123, 1, none⟩ = some (.int .u32 a1_1) := (blk_cell BK123.out 1).trans rfl
                    have hcz24_2 : wr.cell? ⟨gb123, 2, none⟩ = some (.slice A1_2 l1_2.length c1_2) := (blk_cell BK123.out 2).trans rfl
                    have hcz24_3 : wr.cell? ⟨gb123, 3, none⟩ = some (.int .u64 a1_3) := (blk_cell BK123.out 3).trans rfl
                    have hfz24_0 := blk_frozen BK123.out 0
                    have hfz24_1 := blk_frozen BK123.out 1
                    have hfz24_2 := blk_frozen BK123.out 2
                    have hfz24_3 := blk_frozen BK123.out 3
                    have p125 : 0 ≤ (x5_2 : Int) := of_decide_eq_true (by first | (with_reducible assumption) | assumption)
                    have q125 : x5_2 < (l1_2.length : Int) := of_decide_eq_true (by first | (with_reducible assumption) | assumption)
                    obtain ⟨ad125, e125, hx125_0, hx125_1, hx125_2, hx125_3⟩ := at_T36 HR1_2.out x5_2 p125 q125
                    cases e125
                    replace hx125_0 := (HB.out.cell (World.block_lt_of_cell? w _ hx125_0)).trans hx125_0
                    replace hx125_1 := (HB.out.cell (World.block_lt_of_cell? w _ hx125_1)).trans hx125_1
                    replace hx125_2 := (HB.out.cell (World.block_lt_of_cell? w _ hx125_2)).trans hx125_2
                    replace hx125_3 := (HB.out.cell (World.block_lt_of_cell? w _ hx125_3)).trans hx125_3
                    replace p125 := eq_true p125
                    replace q125 := eq_true q125
                    go_wp2
                    repeat (go_quiet (fail); try go_wp2)
                    go_ret
                    exact ⟨by first | rfl | (simp [errW_none, errW_some] <;> rfl) | (simp [*, errW_none, errW_some] <;> rfl), by repeat (first | (with_reducible first | exact HB.out | apply below_alloc | apply pw_below_drewN | apply below_drew1 | refine below_set ?_ GE122.out | refine below_set ?_ GE123.out) | exact HB.out)⟩
                  · rw [if_neg c21] at H
                    have c21b0 : (!(((rd_T36 l0_2 x5_2).f0) == ((rd_T36 l1_2 x5_2).f0)) || (!(((rd_T36 l0_2 x5_2).f1) == ((rd_T36 l1_2 x5_2).f1)) || (!(((rd_T36 l0_2 x5_2).f2) == ((rd_T36 l1_2 x5_2).f2)) || (!((((rd_T36 l0_2 x5_2).f3).toList) == (((rd_T36 l1_2 x5_2).f3).toList)))))) = false := by simpa using c21
                    clear c21
                    have H' := Aside0.mk H
                    clear H
                    have hnb25 := NB122_123.out
                    have hnc25 := NB123_122.out
                    have hcz26_0 : wr.cell? ⟨gb122, 0, none⟩ = some (.int .u64 a0_0) := (blk_cell BK122.out 0).trans rfl
                    have hcz26_1 : wr.cell? ⟨gb122, 1, none⟩ = some (.int .u32 a0_1) := (blk_cell BK122.out 1).trans rfl
                    have hcz26_2 : wr.cell? ⟨gb122, 2, none⟩ = some (.slice A0_2 l0_2.length c0_2) := (blk_cell BK122.out 2).trans rfl
                    have hcz26_3 : wr.cell? ⟨gb122, 3, none⟩ = some (.int .u64 a0_3) := (blk_cell BK122.out 3).trans rfl
                    have hfz26_0 := blk_frozen BK122.out 0
                    have hfz26_1 := blk_frozen BK122.out 1
                    have hfz26_2 := blk_frozen BK122.out 2
                    have hfz26_3 := blk_frozen BK122.out 3
                    have p124 : 0 ≤ (x5_2 : Int) := of_decide_eq_true (by first | (with_reducible assumption) | assumption)
                    have q124 : x5_2 < (l0_2.length : Int) := of_decide_eq_true (by first | (with_reducible assumption) | assumption)
                    obtain ⟨ad124, e124, hx124_0, hx124_1, hx124_2, hx124_3⟩ := at_T36 HR0_2.out x5_2 p124 q124
                    cases e124
                    replace hx124_0 := (HB.out.cell (World.block_lt_of_cell? w _ hx124_0)).trans hx124_0
                    replace hx124_1 := (HB.out.cell (World.block_lt_of_cell? w _ hx124_1)).trans hx124_1
                    replace hx124_2 := (HB.out.cell (World.block_lt_of_cell? w _ hx124_2)).trans hx124_2
                    replace hx124_3 := (HB.out.cell (World.block_lt_of_cell? w _ hx124_3)).trans hx124_3
                    replace p124 := eq_true p124
                    replace q124 := eq_true q124
                    have hcz27_0 : wr.cell? ⟨gb123, 0, none⟩ = some (.int .u64 a1_0) := (blk_cell BK123.out 0).trans rfl
                    have hcz27_1 : wr.cell? ⟨gb123, 1, none⟩ = some (.int .u32 a1_1) := (blk_cell BK123.out 1).trans rfl
                    have hcz27_2 : wr.cell? ⟨gb123, 2, none⟩ = some (.slice A1_2 l1_2.length c1_2) := (blk_cell BK123.out 2).trans rfl
                    have hcz27_3 : wr.cell? ⟨gb123, 3, none⟩ = some (.int .u64 a1_3) := (blk_cell BK123.out 3).trans rfl
                    have hfz27_0 := blk_frozen BK123.out 0
                    have hfz27_1 := blk_frozen BK123.out 1
                    have hfz27_2 := blk_frozen BK123.out 2
                    have hfz27_3 := blk_frozen BK123.out 3
                    have p125 : 0 ≤ (x5_2 : Int) := of_decide_eq_true (by first | (with_reducible assumption) | assumption)
                    have q125 : x5_2 < (l1_2.length : Int) := of_decide_eq_true (by first | (with_reducible assumption) | assumption)
                    obtain ⟨ad125, e125, hx125_0, hx125_1, hx125_2, hx125_3⟩ := at_T36 HR1_2.out x5_2 p125 q125
                    cases e125
                    replace hx125_0 := (HB.out.cell (World.block_lt_of_cell? w _ hx125_0)).trans hx125_0
                    replace hx125_1 := (HB.out.cell (World.block_lt_of_cell? w _ hx125_1)).trans hx125_1
                    replace hx125_2 := (HB.out.cell (World.block_lt_of_cell? w _ hx125_2)).trans hx125_2
                    replace hx125_3 := (HB.out.cell (World.block_lt_of_cell? w _ hx125_3)).trans hx125_3
                    replace p125 := eq_true p125
                    replace q125 := eq_true q125
                    go_wp2
                    repeat (go_quiet (fail); try go_wp2)
                    go_roundg k2
                    case measure => have := HJ2.out; have := HK2.out; omega
                    case rel => exact ⟨(wrap64 (x5_2 + 1)), (by first | rfl | (simp; done) | (simp [*]; done)), H', ⟨by have := HJ2.out; have := HK2.out; omega⟩, ⟨by (with_reducible repeat (first | refine blk_drewN ?_ _ | refine blk_drew ?_ | refine blk_alloc ?_ _)); exact BK122.out⟩, ⟨by (with_reducible repeat (first | refine blk_drewN ?_ _ | refine blk_drew ?_ | refine blk_alloc ?_ _)); exact BK123.out⟩, ⟨by repeat (first | (with_reducible first | exact HB.out | apply below_alloc | apply pw_below_drewN | apply below_drew1 | refine below_set ?_ GE122.out | refine below_set ?_ GE123.out) | exact HB.out)⟩⟩
                · rw [if_neg c20] at H
                  exact absurd H (by simp)
              · rw [if_neg c19] at H
                exact absurd H (by simp)
            · rw [if_neg c18] at H
              have c18b0 : decide (x5_2 < (l0_2.length : Int)) = false := decide_eq_false c18
              clear c18
              obtain rfl := Option.some.inj H
              have hnb28 := NB122_123.out
              have hnc28 := NB123_122.out
              have hcz29_0 : wr.cell? ⟨gb122, 0, none⟩ = some (.int .u64 a0_0) := (blk_cell BK122.out 0).trans rfl
              have hcz29_1 : wr.cell? ⟨gb122, 1, none⟩ = some (.int .u32 a0_1) := (blk_cell BK122.out 1).trans rfl
              have hcz29_2 : wr.cell? ⟨gb122, 2, none⟩ = some (.slice A0_2 l0_2.length c0_2) := (blk_cell BK122.out 2).trans rfl
              have hcz29_3 : wr.cell? ⟨gb122, 3, none⟩ = some (.int .u64 a0_3) := (blk_cell BK122.out 3).trans rfl
              have hfz29_0 := blk_frozen BK122.out 0
              have hfz29_1 := blk_frozen BK122.out 1
              have hfz29_2 := blk_frozen BK122.out 2
              have hfz29_3 := blk_frozen BK122.out 3
              go_wp2
              repeat (go_quiet (fail); try go_wp2)
              go_ret
              exact ⟨by first | rfl | (simp [errW_none, errW_some] <;> rfl) | (simp [*, errW_none, errW_some] <;> rfl), by repeat (first | (with_reducible first | exact HB.out | apply below_alloc | apply pw_below_drewN | apply below_drew1 | refine below_set ?_ GE122.out | refine below_set ?_ GE123.out) | exact HB.out)⟩

end Go.Proofs.Ytfepfpcilmaojaa.QV
/- Printed by mp.py (this session's) with the kit's print: plain functions with the answers of the Go code, and the proofs of it. -/
namespace Go.Proofs.Ytfepfpcilmaojaa.QV
open Go.RowKit Go.Proofs.YtfepfpcilmaojaaW.PrintWords Go.Proofs.YtfepfpcilmaojaaW.PrintLast Go.Proofs.YtfepfpcilmaojaaW.PrintMore
attribute [local go_sem] max2_int min2_int max_two min_two max_three min_three max_four min_four   -- for this text's walks alone
set_option linter.unusedVariables false
set_option linter.unusedSimpArgs false

attribute [local go_sem high] eqA50
/-! ### hayloftref10_Purge: function 21 -/
def hayloftref10_Purge.l0 : Nat → List (S34) → Int → List (S34) → Int → Option ((List (S34)))
  | 0, _, _, _, _ => none
  | k + 1, x0, x1, x5, x6 => if x6 < (x0.length : Int) then (if 0 ≤ x6 then (if ((rd_T34 x0 x6).f2) = 0 then (if x5.length < 2932031007402 then (hayloftref10_Purge.l0 k x0 x1 (x5 ++ [(⟨(⟨(rd_T34 x0 x6).f0.f0, (rd_T34 x0 x6).f0.f1⟩ : S31), (rd_T34 x0 x6).f1, (rd_T34 x0 x6).f2⟩ : S34)]) (wrap64 (x6 + 1))) else (none)) else (if ((rd_T34 x0 x6).f2) > x1 then (if x5.length < 2932031007402 then (hayloftref10_Purge.l0 k x0 x1 (x5 ++ [(⟨(⟨(rd_T34 x0 x6).f0.f0, (rd_T34 x0 x6).f0.f1⟩ : S31), (rd_T34 x0 x6).f1, (rd_T34 x0 x6).f2⟩ : S34)]) (wrap64 (x6 + 1))) else (none)) else (hayloftref10_Purge.l0 k x0 x1 x5 (wrap64 (x6 + 1))))) else (none)) else (some x5)
def hayloftref10_Purge.f (k : Nat) (l0 : List (S34)) (a1 : Int) : Option ((List (S34))) := hayloftref10_Purge.l0 k l0 a1 ([] : List (S34)) 0
theorem hayloftref10_Purge.mono_l : ∀ k, (∀ y0 y1 y2 y3, LeO (hayloftref10_Purge.l0 k y0 y1 y2 y3) (hayloftref10_Purge.l0 (k + 1) y0 y1 y2 y3))
  | 0 => fun _ _ _ _ r h => by simp [hayloftref10_Purge.l0] at h
  | k + 1 => by
    have ih0 := hayloftref10_Purge.mono_l k
    · intro y0 y1 y2 y3
      unfold hayloftref10_Purge.l0
      repeat' first
      | (with_reducible exact ih0 _ _ _ _)
      | (with_reducible exact LeO.refl _)
      | (with_reducible exact LeO.none _)
      | (with_reducible refine LeO.ite ?_ ?_)
      | (with_reducible refine LeO.bind ?_ (fun _ => ?_))
      | exact ih0 _ _ _ _
      | exact LeO.none _
      | refine LeO.ite ?_ ?_
      | refine LeO.bind ?_ (fun _ => ?_)
theorem hayloftref10_Purge.mono : ∀ a0 a1 k, LeO (hayloftref10_Purge.f k a0 a1) (hayloftref10_Purge.f (k + 1) a0 a1) := by
  intro a0 a1 k
  have ih0 := hayloftref10_Purge.mono_l k
  unfold hayloftref10_Purge.f
  repeat' first
      | (with_reducible exact ih0 _ _ _ _)
      | (with_reducible exact LeO.refl _)
      | (with_reducible exact LeO.none _)
      | (with_reducible refine LeO.ite ?_ ?_)
      | (with_reducible refine LeO.bind ?_ (fun _ => ?_))
      | exact ih0 _ _ _ _
      | exact LeO.none _
      | refine LeO.ite ?_ ?_
      | refine LeO.bind ?_ (fun _ => ?_)
set_option maxHeartbeats 8000000 in
set_option maxRecDepth 100000 in
theorem hayloftref10_Purge.calls (k : Nat) (P0_ : Nat → Prop) (A0 : Option Addr) (c0 : Nat) (l0 : List (S34)) (a1 : Int) (r : List (S34)) (w : World) (hs0 : Kd.V k34 34 w w.heap.size (fun k_ => P0_ k_) (.slice A0 l0.length c0) l0) (h : hayloftref10_Purge.f k l0 a1 = some r) :
    Calls Try.prog 21 #[.slice A0 l0.length c0, .int .u64 a1] w fun e w' => ∃ v0_ : Value, e = .returned (v0_) ∧ Kd.N k34 34 w' w.heap.size (fun k_ => (P0_ k_ ∨ w.heap.size ≤ k_)) v0_ r ∧ Below w.heap.size w w' := by
  have hu34 := Try.underlying34
  have HO0 := Aside0.mk (show Kd.V k34 34 w w.heap.size (fun k_ => (P0_ k_ ∨ w.heap.size ≤ k_)) (.slice A0 l0.length c0) l0 from Kd.V_mono hs0 (fun k_ hk => .inl hk))
  have HB := Aside0.mk (Below.refl w.heap.size w)
  have H : (hayloftref10_Purge.l0 k l0 a1 ([] : List (S34)) 0) = some r := h
  clear h
  have H' := Aside0.mk H
  clear H
  go_enter Try.func21, Try.ntmps21
  go_wp2
  go_loopg [5, 6] k (fun kq v5 v6 w' => ∃ (x5_1 : List (S34)) (x6_1 : Int), v6 = .int .i64 x6_1 ∧ Aside0 (hayloftref10_Purge.l0 kq l0 a1 x5_1 x6_1 = some r) ∧ Aside0 (kq ≤ k) ∧ Aside0 (Kd.V k34 34 w' w.heap.size (fun k_ => (P0_ k_ ∨ w.heap.size ≤ k_) ∧ some k_ ≠ (v5 : Value).ownBlock) (.slice A0 l0.length c0) l0) ∧ Aside0 (Kd.N k34 34 w' w.heap.size (fun k_ => (P0_ k_ ∨ w.heap.size ≤ k_)) v5 x5_1) ∧ Aside0 (Below w.heap.size w w'))
  case atStart => exact ⟨(([] : List (S34))), (0), (by first | rfl | (simp; done) | (simp [*]; done)), H', ⟨Nat.le_refl _⟩, ⟨by (with_reducible repeat (first | apply Kd.V_alloc | apply Kd.V_drewN | apply Kd.V_drew)); exact Kd.V_mono HO0.out (fun _ hk => ⟨hk, (by simp [Value.ownBlock])⟩)⟩, ⟨by first | exact Kd.S_nil _ _ _ _ _ | exact Kd.N_nil _ _ _ _ _ | exact Kd.V_nil _ _ _ _ _ | exact Kd.Q_nil _ _ _ _ _ | exact Kd.R_nil _ _ _ _ _⟩, ⟨by repeat (first | (with_reducible first | exact HB.out | apply below_alloc | apply pw_below_drewN | apply below_drew1) | exact HB.out)⟩⟩
  case round =>
    clear H'
    try clear c2
    try clear p2
    obtain ⟨x5_1, x6_1, rfl, HA, HK1, HO_0, HO_5, HB⟩ := hrel
    cases gk with
    | zero => exact absurd HA.out (by simp [hayloftref10_Purge.l0])
    | succ k1 =>
      have H := HA.out
      clear HA
      simp only [hayloftref10_Purge.l0] at H
      by_cases c3 : x6_1 < (l0.length : Int)
      · rw [if_pos c3] at H
        have c3b0 : decide (x6_1 < (l0.length : Int)) = true := decide_eq_true c3
        clear c3
        by_cases c4 : 0 ≤ x6_1
        · rw [if_pos c4] at H
          have c4b0 : decide (0 ≤ x6_1) = true := decide_eq_true c4
          clear c4
          by_cases c5 : ((rd_T34 l0 x6_1).f2) = 0
          · rw [if_pos c5] at H
            have c5b0 : (((rd_T34 l0 x6_1).f2) == 0) = true := beq_iff_eq.mpr c5
            have c5b1 : (((rd_T34 l0 x6_1).f2) != 0) = false := bne_eq_false_iff_eq.mpr c5
            clear c5
            by_cases c6 : x5_1.length < 2932031007402
            · rw [if_pos c6] at H
              have LMc6 := Aside0.mk c6
              clear c6
              obtain ⟨y186, hy186⟩ : ∃ y_ : List (S34), y_ = (x5_1 ++ [(⟨(⟨(rd_T34 l0 x6_1).f0.f0, (rd_T34 l0 x6_1).f0.f1⟩ : S31), (rd_T34 l0 x6_1).f1, (rd_T34 l0 x6_1).f2⟩ : S34)]) := ⟨_, rfl⟩
              replace H : (hayloftref10_Purge.l0 k1 l0 a1 y186 (wrap64 (x6_1 + 1))) = some r := by first | (rw [hy186]; with_reducible exact H) | (have H2_ := (Option.bind_some _ _).symm.trans H; rw [hy186]; with_reducible exact H2_) | (have H2_ := (Option.bind_some _ _).symm.trans H; with_reducible exact H2_) | with_reducible exact H | (rw [hy186]; exact H) | exact H
              have Ny186 := Aside0.mk hy186
              clear hy186
              have H' := Aside0.mk H
              clear H
              have p184 : 0 ≤ (x6_1 : Int) := of_decide_eq_true (by first | (with_reducible assumption) | assumption)
              have q184 : x6_1 < (l0.length : Int) := of_decide_eq_true (by first | (with_reducible assumption) | assumption)
              obtain ⟨ad184, A184_2, c184_2, e184, hx184_0, hx184_1, hx184_2, hx184_3, hl184_2, hi184_2⟩ := at_T34 (Kd.V_reads' HO_0.out).2.2 x6_1 p184 q184
              cases e184
              obtain ⟨ce184, hce184, hMe184, hcc184⟩ := Kd.V_get HO_0.out z34 x6_1 p184 (by first | exact q184 | exact of_decide_eq_true (by first | (with_reducible assumption) | assumption) | (have e_ := (Kd.V_reads' HO_0.out).1; omega))
              obtain ⟨ua184_2, uc184_2, rfl, ul184_2, ge184_2⟩ := k34_openF hMe184
              have hv184_2 := hcc184 2 _ rfl
              rw [add_field _ _ 2 (by omega)] at hv184_2
              replace hv184_2 := Option.some.inj (hv184_2.symm.trans hx184_2)
              injection hv184_2 with hva_ hvn_ hvc_
              rw [hva_] at ge184_2
              rw [hvc_] at ul184_2
              have HL184_2 := Aside0.mk (show Kd.V k36 36 _ w.heap.size _ _ ((rd_T34 l0 x6_1).f1) from Kd.V_mk ul184_2 ge184_2)
              clear hva_ hvn_ hvc_ ge184_2 ul184_2
              clear hcc184 hce184
              have HR184_2 := Aside0.mk hi184_2
              have HC184_2 := Aside0.mk hl184_2
              clear hi184_2 hl184_2
              replace p184 := eq_true p184
              replace q184 := eq_true q184
              have p185 : 0 ≤ (x6_1 : Int) := of_decide_eq_true (by first | (with_reducible assumption) | assumption)
              have q185 : x6_1 < (l0.length : Int) := of_decide_eq_true (by first | (with_reducible assumption) | assumption)
              obtain ⟨ad185, A185_2, c185_2, e185, hx185_0, hx185_1, hx185_2, hx185_3, hl185_2, hi185_2⟩ := at_T34 (Kd.V_reads' HO_0.out).2.2 x6_1 p185 q185
              obtain rfl : ad184 = ad185 := (by injection e185)
              obtain ⟨ce185, hce185, hMe185, hcc185⟩ := Kd.V_get HO_0.out z34 x6_1 p185 (by first | exact q185 | exact of_decide_eq_true (by first | (with_reducible assumption) | assumption) | (have e_ := (Kd.V_reads' HO_0.out).1; omega))
              obtain ⟨ua185_2, uc185_2, rfl, ul185_2, ge185_2⟩ := k34_openF hMe185
              have hv185_2 := hcc185 2 _ rfl
              rw [add_field _ _ 2 (by omega)] at hv185_2
              replace hv185_2 := Option.some.inj (hv185_2.symm.trans hx185_2)
              injection hv185_2 with hva_ hvn_ hvc_
              rw [hva_] at ge185_2
              rw [hvc_] at ul185_2
              have HL185_2 := Aside0.mk (show Kd.V k36 36 _ w.heap.size _ _ ((rd_T34 l0 x6_1).f1) from Kd.V_mk ul185_2 ge185_2)
              clear hva_ hvn_ hvc_ ge185_2 ul185_2
              clear hcc185 hce185
              have HR185_2 := Aside0.mk hi185_2
              have HC185_2 := Aside0.mk hl185_2
              clear hi185_2 hl185_2
              replace p185 := eq_true p185
              replace q185 := eq_true q185
              have ea_ := Option.some.inj (hx184_2.symm.trans hx185_2)
              injection ea_ with ea_ en_ ec_
              subst ea_
              subst ec_
              clear en_
              go_wp2_with (first | ((with_reducible refine gate_builtin (b := .append) (xs := #[.tmp 28, .tmp 33]) rfl ?_); at_builtin; refine Kd.N_append k34 (w0 := w) w.heap.size rfl (.tmp 28) (.tmp 33) 22 34 (.agg #[(.int .u64 0), (.int .u32 0), (.slice none 0 0), (.int .u64 0)]) 48 rfl Try.underlying22 info34 rfl (by decide) (by omega) u5 x5_1 (⟨(⟨(rd_T34 l0 x6_1).f0.f0, (rd_T34 l0 x6_1).f0.f1⟩ : S31), (rd_T34 l0 x6_1).f1, (rd_T34 l0 x6_1).f2⟩ : S34) [.int .u64 ((rd_T34 l0 x6_1).f0.f0), .int .u32 ((rd_T34 l0 x6_1).f0.f1), .slice A184_2 ((rd_T34 l0 x6_1).f1).length c184_2, .int .u64 ((rd_T34 l0 x6_1).f2)] (fun k_ => (P0_ k_ ∨ w.heap.size ≤ k_)) (fun k_ => ((fun k_ => (P0_ k_ ∨ w.heap.size ≤ k_))) k_ ∧ some k_ ≠ (u5 : Value).ownBlock) rfl rfl ?aP (fun _ hk => hk) ?aF ?aO ?aB ?aS ?aL ?_; (case aP => exact (k34_mkF _ _ (⟨(⟨(rd_T34 l0 x6_1).f0.f0, (rd_T34 l0 x6_1).f0.f1⟩ : S31), (rd_T34 l0 x6_1).f1, (rd_T34 l0 x6_1).f2⟩ : S34) (Kd.V_reads' (Kd.V_mono (ok' := (fun k_ => ((fun k_ => (P0_ k_ ∨ w.heap.size ≤ k_))) k_ ∧ some k_ ≠ (u5 : Value).ownBlock)) (HL185_2.out) (fun k_ hk => ⟨hk.1, hk.2⟩))).2.1 (Kd.V_F (Kd.V_mono (ok' := (fun k_ => ((fun k_ => (P0_ k_ ∨ w.heap.size ≤ k_))) k_ ∧ some k_ ≠ (u5 : Value).ownBlock)) (HL185_2.out) (fun k_ hk => ⟨hk.1, hk.2⟩))))); (case aB => exact (by repeat (first | (with_reducible first | exact HB.out | apply below_alloc | apply pw_below_drewN | apply below_drew1) | exact HB.out))); (case aF => exact (fun k_ hk => (.inr (Nat.le_trans (below_size (by repeat (first | (with_reducible first | exact HB.out | apply below_alloc | apply pw_below_drewN | apply below_drew1) | exact HB.out))) hk)))); (case aO => exact (by (with_reducible repeat (first | apply Kd.N_alloc | apply Kd.N_drewN | apply Kd.N_drew)); exact HO_5.out)); (case aS => exact (below_size (by repeat (first | (with_reducible first | exact HB.out | apply below_alloc | apply pw_below_drewN | apply below_drew1) | exact HB.out)))); (case aL => have := LMc6.out; omega); intro v187 w7 ho hb hg hat; rw [← Ny186.out] at ho; have n0_ := Aside0.mk (Kd.V_afterv (ok := (fun k_ => (P0_ k_ ∨ w.heap.size ≤ k_))) (by (with_reducible repeat (first | apply Kd.V_alloc | apply Kd.V_drewN | apply Kd.V_drew)); exact HO_0.out) hg hat); have n1_ := Aside0.mk (Kd.V_afterv (ok := (fun k_ => (P0_ k_ ∨ w.heap.size ≤ k_))) (by (with_reducible repeat (first | apply Kd.V_alloc | apply Kd.V_drewN | apply Kd.V_drew)); exact HL184_2.out) hg hat); have n2_ := Aside0.mk (Kd.V_afterv (ok := (fun k_ => (P0_ k_ ∨ w.heap.size ≤ k_))) (by (with_reducible repeat (first | apply Kd.V_alloc | apply Kd.V_drewN | apply Kd.V_drew)); exact HL185_2.out) hg hat); have n3_ := Aside0.mk (hb); have n4_ := Aside0.mk (ho); clear HO_0; clear HL184_2; clear HL185_2; clear HB; clear HO_5; have HO_0 := n0_; have HL184_2 := n1_; have HL185_2 := n2_; have HB := n3_; have HO188 := n4_; clear n0_ n1_ n2_ n3_ n4_; clear ho hb hg hat))
              go_roundg k1
              case measure => have := HK1.out; omega
              case rel => exact ⟨(y186), (wrap64 (x6_1 + 1)), (by first | rfl | (simp; done) | (simp [*]; done)), H', ⟨by have := HK1.out; omega⟩, ⟨by (with_reducible repeat (first | apply Kd.V_alloc | apply Kd.V_drewN | apply Kd.V_drew)); exact HO_0.out⟩, ⟨by (with_reducible repeat (first | apply Kd.N_alloc | apply Kd.N_drewN | apply Kd.N_drew)); exact HO188.out⟩, ⟨by repeat (first | (with_reducible first | exact HB.out | apply below_alloc | apply pw_below_drewN | apply below_drew1) | exact HB.out)⟩⟩
            · rw [if_neg c6] at H
              exact absurd H (by simp)
          · rw [if_neg c5] at H
            have c5b0 : (((rd_T34 l0 x6_1).f2) == 0) = false := beq_eq_false_iff_ne.mpr c5
            have c5b1 : (((rd_T34 l0 x6_1).f2) != 0) = true := bne_iff_ne.mpr c5
            by_cases c8 : ((rd_T34 l0 x6_1).f2) > a1
            · rw [if_pos c8] at H
              have c8b0 : decide (a1 < ((rd_T34 l0 x6_1).f2)) = true := decide_eq_true c8
              clear c8
              by_cases c9 : x5_1.length < 2932031007402
              · rw [if_pos c9] at H
                have LMc9 := Aside0.mk c9
                clear c9
                obtain ⟨y191, hy191⟩ : ∃ y_ : List (S34), y_ = (x5_1 ++ [(⟨(⟨(rd_T34 l0 x6_1).f0.f0, (rd_T34 l0 x6_1).f0.f1⟩ : S31), (rd_T34 l0 x6_1).f1, (rd_T34 l0 x6_1).f2⟩ : S34)]) := ⟨_, rfl⟩
                replace H : (hayloftref10_Purge.l0 k1 l0 a1 y191 (wrap64 (x6_1 + 1))) = some r := by first | (rw [hy191]; with_reducible exact H) | (have H2_ := (Option.bind_some _ _).symm.trans H; rw [hy191]; with_reducible exact H2_) | (have H2_ := (Option.bind_some _ _).symm.trans H; with_reducible exact H2_) | with_reducible exact H | (rw [hy191]; exact H) | exact H
                have Ny191 := Aside0.mk hy191
                clear hy191
                have H' := Aside0.mk H
                clear H
                have p184 : 0 ≤ (x6_1 : Int) := of_decide_eq_true (by first | (with_reducible assumption) | assumption)
                have q184 : x6_1 < (l0.length : Int) := of_decide_eq_true (by first | (with_reducible assumption) | assumption)
                obtain ⟨ad184, A184_2, c184_2, e184, hx184_0, hx184_1, hx184_2, hx184_3, hl184_2, hi184_2⟩ := at_T34 (Kd.V_reads' HO_0.out).2.2 x6_1 p184 q184
                cases e184
                obtain ⟨ce184, hce184, hMe184, hcc184⟩ := Kd.V_get HO_0.out z34 x6_1 p184 (by first | exact q184 | exact of_decide_eq_true (by first | (with_reducible assumption) | assumption) | (have e_ := (Kd.V_reads' HO_0.out).1; omega))
                obtain ⟨ua184_2, uc184_2, rfl, ul184_2, ge184_2⟩ := k34_openF hMe184
                have hv184_2 := hcc184 2 _ rfl
                rw [add_field _ _ 2 (by omega)] at hv184_2
                replace hv184_2 := Option.some.inj (hv184_2.symm.trans hx184_2)
                injection hv184_2 with hva_ hvn_ hvc_
                rw [hva_] at ge184_2
                rw [hvc_] at ul184_2
                have HL184_2 := Aside0.mk (show Kd.V k36 36 _ w.heap.size _ _ ((rd_T34 l0 x6_1).f1) from Kd.V_mk ul184_2 ge184_2)
                clear hva_ hvn_ hvc_ ge184_2 ul184_2
                clear hcc184 hce184
                have HR184_2 := Aside0.mk hi184_2
                have HC184_2 := Aside0.mk hl184_2
                clear hi184_2 hl184_2
                replace p184 := eq_true p184
                replace q184 := eq_true q184
                have p189 : 0 ≤ (x6_1 : Int) := of_decide_eq_true (by first | (with_reducible assumption) | assumption)
                have q189 : x6_1 < (l0.length : Int) := of_decide_eq_true (by first | (with_reducible assumption) | assumption)
                obtain ⟨ad189, A189_2, c189_2, e189, hx189_0, hx189_1, hx189_2, hx189_3, hl189_2, hi189_2⟩ := at_T34 (Kd.V_reads' HO_0.out).2.2 x6_1 p189 q189
                obtain rfl : ad184 = ad189 := (by injection e189)
                obtain ⟨ce189, hce189, hMe189, hcc189⟩ := Kd.V_get HO_0.out z34 x6_1 p189 (by first | exact q189 | exact of_decide_eq_true (by first | (with_reducible assumption) | assumption) | (have e_ := (Kd.V_reads' HO_0.out).1; omega))
                obtain ⟨ua189_2, uc189_2, rfl, ul189_2, ge189_2⟩ := k34_openF hMe189
                have hv189_2 := hcc189 2 _ rfl
                rw [add_field _ _ 2 (by omega)] at hv189_2
                replace hv189_2 := Option.some.inj (hv189_2.symm.trans hx189_2)
                injection hv189_2 with hva_ hvn_ hvc_
                rw [hva_] at ge189_2
                rw [hvc_] at ul189_2
                have HL189_2 := Aside0.mk (show Kd.V k36 36 _ w.heap.size _ _ ((rd_T34 l0 x6_1).f1) from Kd.V_mk ul189_2 ge189_2)
                clear hva_ hvn_ hvc_ ge189_2 ul189_2
                clear hcc189 hce189
                have HR189_2 := Aside0.mk hi189_2
                have HC189_2 := Aside0.mk hl189_2
                clear hi189_2 hl189_2
                replace p189 := eq_true p189
                replace q189 := eq_true q189
                have ea_ := Option.some.inj (hx184_2.symm.trans hx189_2)
                injection ea_ with ea_ en_ ec_
                subst ea_
                subst ec_
                clear en_
                have p190 : 0 ≤ (x6_1 : Int) := of_decide_eq_true (by first | (with_reducible assumption) | assumption)
                have q190 : x6_1 < (l0.length : Int) := of_decide_eq_true (by first | (with_reducible assumption) | assumption)
                obtain ⟨ad190, A190_2, c190_2, e190, hx190_0, hx190_1, hx190_2, hx190_3, hl190_2, hi190_2⟩ := at_T34 (Kd.V_reads' HO_0.out).2.2 x6_1 p190 q190
                obtain rfl : ad184 = ad190 := (by injection e190)
                obtain ⟨ce190, hce190, hMe190, hcc190⟩ := Kd.V_get HO_0.out z34 x6_1 p190 (by first | exact q190 | exact of_decide_eq_true (by first | (with_reducible assumption) | assumption) | (have e_ := (Kd.V_reads' HO_0.out).1; omega))
                obtain ⟨ua190_2, uc190_2, rfl, ul190_2, ge190_2⟩ := k34_openF hMe190
                have hv190_2 := hcc190 2 _ rfl
                rw [add_field _ _ 2 (by omega)] at hv190_2
                replace hv190_2 := Option.some.inj (hv190_2.symm.trans hx190_2)
                injection hv190_2 with hva_ hvn_ hvc_
                rw [hva_] at ge190_2
                rw [hvc_] at ul190_2
                have HL190_2 := Aside0.mk (show Kd.V k36 36 _ w.heap.size _ _ ((rd_T34 l0 x6_1).f1) from Kd.V_mk ul190_2 ge190_2)
                clear hva_ hvn_ hvc_ ge190_2 ul190_2
                clear hcc190 hce190
                have HR190_2 := Aside0.mk hi190_2
                have HC190_2 := Aside0.mk hl190_2
                clear hi190_2 hl190_2
                replace p190 := eq_true p190
                replace q190 := eq_true q190
                have ea_ := Option.some.inj (hx184_2.symm.trans hx190_2)
                injection ea_ with ea_ en_ ec_
                subst ea_
                subst ec_
                clear en_
                go_wp2_with (first | ((with_reducible refine gate_builtin (b := .append) (xs := #[.tmp 28, .tmp 33]) rfl ?_); at_builtin; refine Kd.N_append k34 (w0 := w) w.heap.size rfl (.tmp 28) (.tmp 33) 22 34 (.agg #[(.int .u64 0), (.int .u32 0), (.slice none 0 0), (.int .u64 0)]) 48 rfl Try.underlying22 info34 rfl (by decide) (by omega) u5 x5_1 (⟨(⟨(rd_T34 l0 x6_1).f0.f0, (rd_T34 l0 x6_1).f0.f1⟩ : S31), (rd_T34 l0 x6_1).f1, (rd_T34 l0 x6_1).f2⟩ : S34) [.int .u64 ((rd_T34 l0 x6_1).f0.f0), .int .u32 ((rd_T34 l0 x6_1).f0.f1), .slice A184_2 ((rd_T34 l0 x6_1).f1).length c184_2, .int .u64 ((rd_T34 l0 x6_1).f2)] (fun k_ => (P0_ k_ ∨ w.heap.size ≤ k_)) (fun k_ => ((fun k_ => (P0_ k_ ∨ w.heap.size ≤ k_))) k_ ∧ some k_ ≠ (u5 : Value).ownBlock) rfl rfl ?aP (fun _ hk => hk) ?aF ?aO ?aB ?aS ?aL ?_; (case aP => exact (k34_mkF _ _ (⟨(⟨(rd_T34 l0 x6_1).f0.f0, (rd_T34 l0 x6_1).f0.f1⟩ : S31), (rd_T34 l0 x6_1).f1, (rd_T34 l0 x6_1).f2⟩ : S34) (Kd.V_reads' (Kd.V_mono (ok' := (fun k_ => ((fun k_ => (P0_ k_ ∨ w.heap.size ≤ k_))) k_ ∧ some k_ ≠ (u5 : Value).ownBlock)) (HL190_2.out) (fun k_ hk => ⟨hk.1, hk.2⟩))).2.1 (Kd.V_F (Kd.V_mono (ok' := (fun k_ => ((fun k_ => (P0_ k_ ∨ w.heap.size ≤ k_))) k_ ∧ some k_ ≠ (u5 : Value).ownBlock)) (HL190_2.out) (fun k_ hk => ⟨hk.1, hk.2⟩))))); (case aB => exact (by repeat (first | (with_reducible first | exact HB.out | apply below_alloc | apply pw_below_drewN | apply below_drew1) | exact HB.out))); (case aF => exact (fun k_ hk => (.inr (Nat.le_trans (below_size (by repeat (first | (with_reducible first | exact HB.out | apply below_alloc | apply pw_below_drewN | apply below_drew1) | exact HB.out))) hk)))); (case aO => exact (by (with_reducible repeat (first | apply Kd.N_alloc | apply Kd.N_drewN | apply Kd.N_drew)); exact HO_5.out)); (case aS => exact (below_size (by repeat (first | (with_reducible first | exact HB.out | apply below_alloc | apply pw_below_drewN | apply below_drew1) | exact HB.out)))); (case aL => have := LMc9.out; omega); intro v192 w10 ho hb hg hat; rw [← Ny191.out] at ho; have n0_ := Aside0.mk (Kd.V_afterv (ok := (fun k_ => (P0_ k_ ∨ w.heap.size ≤ k_))) (by (with_reducible repeat (first | apply Kd.V_alloc | apply Kd.V_drewN | apply Kd.V_drew)); exact HO_0.out) hg hat); have n1_ := Aside0.mk (Kd.V_afterv (ok := (fun k_ => (P0_ k_ ∨ w.heap.size ≤ k_))) (by (with_reducible repeat (first | apply Kd.V_alloc | apply Kd.V_drewN | apply Kd.V_drew)); exact HL184_2.out) hg hat); have n2_ := Aside0.mk (Kd.V_afterv (ok := (fun k_ => (P0_ k_ ∨ w.heap.size ≤ k_))) (by (with_reducible repeat (first | apply Kd.V_alloc | apply Kd.V_drewN | apply Kd.V_drew)); exact HL189_2.out) hg hat); have n3_ := Aside0.mk (Kd.V_afterv (ok := (fun k_ => (P0_ k_ ∨ w.heap.size ≤ k_))) (by (with_reducible repeat (first | apply Kd.V_alloc | apply Kd.V_drewN | apply Kd.V_drew)); exact HL190_2.out) hg hat); have n4_ := Aside0.mk (hb); have n5_ := Aside0.mk (ho); clear HO_0; clear HL184_2; clear HL189_2; clear HL190_2; clear HB; clear HO_5; have HO_0 := n0_; have HL184_2 := n1_; have HL189_2 := n2_; have HL190_2 := n3_; have HB := n4_; have HO193 := n5_; clear n0_ n1_ n2_ n3_ n4_ n5_; clear ho hb hg hat))
                go_roundg k1
                case measure => have := HK1.out; omega
                case rel => exact ⟨(y191), (wrap64 (x6_1 + 1)), (by first | rfl | (simp; done) | (simp [*]; done)), H', ⟨by have := HK1.out; omega⟩, ⟨by (with_reducible repeat (first | apply Kd.V_alloc | apply Kd.V_drewN | apply Kd.V_drew)); exact HO_0.out⟩, ⟨by (with_reducible repeat (first | apply Kd.N_alloc | apply Kd.N_drewN | apply Kd.N_drew)); exact HO193.out⟩, ⟨by repeat (first | (with_reducible first | exact HB.out | apply below_alloc | apply pw_below_drewN | apply below_drew1) | exact HB.out)⟩⟩
              · rw [if_neg c9] at H
                exact absurd H (by simp)
            · rw [if_neg c8] at H
              have c8b0 : decide (a1 < ((rd_T34 l0 x6_1).f2)) = false := decide_eq_false c8
              clear c8
              have H' := Aside0.mk H
              clear H
              have p184 : 0 ≤ (x6_1 : Int) := of_decide_eq_true (by first | (with_reducible assumption) | assumption)
              have q184 : x6_1 < (l0.length : Int) := of_decide_eq_true (by first | (with_reducible assumption) | assumption)
              obtain ⟨ad184, A184_2, c184_2, e184, hx184_0, hx184_1, hx184_2, hx184_3, hl184_2, hi184_2⟩ := at_T34 (Kd.V_reads' HO_0.out).2.2 x6_1 p184 q184
              cases e184
              obtain ⟨ce184, hce184, hMe184, hcc184⟩ := Kd.V_get HO_0.out z34 x6_1 p184 (by first | exact q184 | exact of_decide_eq_true (by first | (with_reducible assumption) | assumption) | (have e_ := (Kd.V_reads' HO_0.out).1; omega))
              obtain ⟨ua184_2, uc184_2, rfl, ul184_2, ge184_2⟩ := k34_openF hMe184
              have hv184_2 := hcc184 2 _ rfl
              rw [add_field _ _ 2 (by omega)] at hv184_2
              replace hv184_2 := Option.some.inj (hv184_2.symm.trans hx184_2)
              injection hv184_2 with hva_ hvn_ hvc_
              rw [hva_] at ge184_2
              rw [hvc_] at ul184_2
              have HL184_2 := Aside0.mk (show Kd.V k36 36 _ w.heap.size _ _ ((rd_T34 l0 x6_1).f1) from Kd.V_mk ul184_2 ge184_2)
              clear hva_ hvn_ hvc_ ge184_2 ul184_2
              clear hcc184 hce184
              have HR184_2 := Aside0.mk hi184_2
              have HC184_2 := Aside0.mk hl184_2
              clear hi184_2 hl184_2
              replace p184 := eq_true p184
              replace q184 := eq_true q184
              have p189 : 0 ≤ (x6_1 : Int) := of_decide_eq_true (by first | (with_reducible assumption) | assumption)
              have q189 : x6_1 < (l0.length : Int) := of_decide_eq_true (by first | (with_reducible assumption) | assumption)
              obtain ⟨ad189, A189_2, c189_2, e189, hx189_0, hx189_1, hx189_2, hx189_3, hl189_2, hi189_2⟩ := at_T34 (Kd.V_reads' HO_0.out).2.2 x6_1 p189 q189
              obtain rfl : ad184 = ad189 := (by injection e189)
              obtain ⟨ce189, hce189, hMe189, hcc189⟩ := Kd.V_get HO_0.out z34 x6_1 p189 (by first | exact q189 | exact of_decide_eq_true (by first | (with_reducible assumption) | assumption) | (have e_ := (Kd.V_reads' HO_0.out).1; omega))
              obtain ⟨ua189_2, uc189_2, rfl, ul189_2, ge189_2⟩ := k34_openF hMe189
              have hv189_2 := hcc189 2 _ rfl
              rw [add_field _ _ 2 (by omega)] at hv189_2
              replace hv189_2 := Option.some.inj (hv189_2.symm.trans hx189_2)
              injection hv189_2 with hva_ hvn_ hvc_
              rw [hva_] at ge189_2
              rw [hvc_] at ul189_2
              have HL189_2 := Aside0.mk (show Kd.V k36 36 _ w.heap.size _ _ ((rd_T34 l0 x6_1).f1) from Kd.V_mk ul189_2 ge189_2)
              clear hva_ hvn_ hvc_ ge189_2 ul189_2
              clear hcc189 hce189
              have HR189_2 := Aside0.mk hi189_2
              have HC189_2 := Aside0.mk hl189_2
              clear hi189_2 hl189_2
              replace p189 := eq_true p189
              replace q189 := eq_true q189
              have ea_ := Option.some.inj (hx184_2.symm.trans hx189_2)
              injection ea_ with ea_ en_ ec_
              subst ea_
              subst ec_
              clear en_
              go_wp2
              go_roundg k1
              case measure => have := HK1.out; omega
              case rel => exact ⟨(x5_1), (wrap64 (x6_1 + 1)), (by first | rfl | (simp; done) | (simp [*]; done)), H', ⟨by have := HK1.out; omega⟩, ⟨by (with_reducible repeat (first | apply Kd.V_alloc | apply Kd.V_drewN | apply Kd.V_drew)); exact HO_0.out⟩, ⟨by (with_reducible repeat (first | apply Kd.N_alloc | apply Kd.N_drewN | apply Kd.N_drew)); exact HO_5.out⟩, ⟨by repeat (first | (with_reducible first | exact HB.out | apply below_alloc | apply pw_below_drewN | apply below_drew1) | exact HB.out)⟩⟩
        · rw [if_neg c4] at H
          exact absurd H (by simp)
      · rw [if_neg c3] at H
        have c3b0 : decide (x6_1 < (l0.length : Int)) = false := decide_eq_false c3
        clear c3
        obtain rfl := Option.some.inj H
        go_wp2
        go_ret
        exact ⟨_, by first | rfl | (simp [errW_none, errW_some] <;> rfl) | (simp [*, errW_none, errW_some] <;> rfl), by (with_reducible repeat (first | apply Kd.N_alloc | apply Kd.N_drewN | apply Kd.N_drew)); exact HO_5.out, by repeat (first | (with_reducible first | exact HB.out | apply below_alloc | apply pw_below_drewN | apply below_drew1) | exact HB.out)⟩

-- NOT PRINTED: function 6 (hayloftlaw18_RecoverPurged)

-- NOT PRINTED: function 7 (hayloftlaw18_RecoverAgain)

/-! ### hayloftref18_Missing: function 24 -/
mutual
def hayloftref18_Missing.l0 : Nat → List (S50) → List (S66) → List (S50) → Int → Option ((List (S50)))
  | 0, _, _, _, _ => none
  | k + 1, x0, x1, x5, x6 => if x6 < (x0.length : Int) then (hayloftref18_Missing.l1 k x0 x1 x5 x6 false 0) else (some x5)
def hayloftref18_Missing.l1 : Nat → List (S50) → List (S66) → List (S50) → Int → Bool → Int → Option ((List (S50)))
  | 0, _, _, _, _, _, _ => none
  | k + 1, x0, x1, x5, x6, x7, x8 => if x8 < (x1.length : Int) then (if 0 ≤ x8 then (if 0 ≤ x6 then (if x6 < (x0.length : Int) then (if (((rd_T66 x1 x8).f0.f0) == ((rd_T50 x0 x6).f0) && (((rd_T66 x1 x8).f0.f1) == ((rd_T50 x0 x6).f1))) = true then (hayloftref18_Missing.l1 k x0 x1 x5 x6 true (wrap64 (x8 + 1))) else (hayloftref18_Missing.l1 k x0 x1 x5 x6 x7 (wrap64 (x8 + 1)))) else (none)) else (none)) else (none)) else (if x7 = true then (hayloftref18_Missing.l0 k x0 x1 x5 (wrap64 (x6 + 1))) else (if 0 ≤ x6 then (if x6 < (x0.length : Int) then (if x5.length < 8796093022208 then (hayloftref18_Missing.l0 k x0 x1 (x5 ++ [(⟨(rd_T50 x0 x6).f0, (rd_T50 x0 x6).f1⟩ : S50)]) (wrap64 (x6 + 1))) else (none)) else (none)) else (none)))
end
def hayloftref18_Missing.f (k : Nat) (l0 : List (S50)) (l1 : List (S66)) : Option ((List (S50))) := hayloftref18_Missing.l0 k l0 l1 ([] : List (S50)) 0
theorem hayloftref18_Missing.mono_l : ∀ k, (∀ y0 y1 y2 y3, LeO (hayloftref18_Missing.l0 k y0 y1 y2 y3) (hayloftref18_Missing.l0 (k + 1) y0 y1 y2 y3)) ∧ (∀ y0 y1 y2 y3 y4 y5, LeO (hayloftref18_Missing.l1 k y0 y1 y2 y3 y4 y5) (hayloftref18_Missing.l1 (k + 1) y0 y1 y2 y3 y4 y5))
  | 0 => ⟨fun _ _ _ _ r h => by simp [hayloftref18_Missing.l0] at h, fun _ _ _ _ _ _ r h => by simp [hayloftref18_Missing.l1] at h⟩
  | k + 1 => by
    obtain ⟨ih0, ih1⟩ := hayloftref18_Missing.mono_l k
    refine ⟨?_, ?_⟩
    · intro y0 y1 y2 y3
      unfold hayloftref18_Missing.l0
      repeat' first
      | (with_reducible exact ih0 _ _ _ _)
      | (with_reducible exact ih1 _ _ _ _ _ _)
      | (with_reducible exact LeO.refl _)
      | (with_reducible exact LeO.none _)
      | (with_reducible refine LeO.ite ?_ ?_)
      | (with_reducible refine LeO.bind ?_ (fun _ => ?_))
      | exact ih0 _ _ _ _
      | exact ih1 _ _ _ _ _ _
      | exact LeO.none _
      | refine LeO.ite ?_ ?_
      | refine LeO.bind ?_ (fun _ => ?_)
    · intro y0 y1 y2 y3 y4 y5
      unfold hayloftref18_Missing.l1
      repeat' first
      | (with_reducible exact ih0 _ _ _ _)
      | (with_reducible exact ih1 _ _ _ _ _ _)
      | (with_reducible exact LeO.refl _)
      | (with_reducible exact LeO.none _)
      | (with_reducible refine LeO.ite ?_ ?_)
      | (with_reducible refine LeO.bind ?_ (fun _ => ?_))
      | exact ih0 _ _ _ _
      | exact ih1 _ _ _ _ _ _
      | exact LeO.none _
      | refine LeO.ite ?_ ?_
      | refine LeO.bind ?_ (fun _ => ?_)
theorem hayloftref18_Missing.mono : ∀ a0 a1 k, LeO (hayloftref18_Missing.f k a0 a1) (hayloftref18_Missing.f (k + 1) a0 a1) := by
  intro a0 a1 k
  obtain ⟨ih0, ih1⟩ := hayloftref18_Missing.mono_l k
  unfold hayloftref18_Missing.f
  repeat' first
      | (with_reducible exact ih0 _ _ _ _)
      | (with_reducible exact ih1 _ _ _ _ _ _)
      | (with_reducible exact LeO.refl _)
      | (with_reducible exact LeO.none _)
      | (with_reducible refine LeO.ite ?_ ?_)
      | (with_reducible refine LeO.bind ?_ (fun _ => ?_))
      | exact ih0 _ _ _ _
      | exact ih1 _ _ _ _ _ _
      | exact LeO.none _
      | refine LeO.ite ?_ ?_
      | refine LeO.bind ?_ (fun _ => ?_)
set_option maxHeartbeats 8000000 in
set_option maxRecDepth 100000 in
theorem hayloftref18_Missing.calls (k : Nat) (A0 : Option Addr) (c0 : Nat) (l0 : List (S50)) (A1 : Option Addr) (c1 : Nat) (l1 : List (S66)) (r : List (S50)) (w : World) (hr0 : Kd.C k50 w A0 l0.length l0) (hc0 : l0.length ≤ c0) (hr1 : Kd.C k66 w A1 l1.length l1) (hc1 : l1.length ≤ c1) (h : hayloftref18_Missing.f k l0 l1 = some r) :
    Calls Try.prog 24 #[.slice A0 l0.length c0, .slice A1 l1.length c1] w fun e w' => ∃ v0_ : Value, e = .returned (v0_) ∧ Kd.R k50 50 w' w.heap.size (fun _ => True) v0_ r ∧ Below w.heap.size w w' := by
  have hu50 := Try.underlying50
  have HR0 := Aside0.mk hr0
  have HC0 := Aside0.mk hc0
  clear hr0 hc0
  have HR1 := Aside0.mk hr1
  have HC1 := Aside0.mk hc1
  clear hr1 hc1
  have HB := Aside0.mk (Below.refl w.heap.size w)
  have H : (hayloftref18_Missing.l0 k l0 l1 ([] : List (S50)) 0) = some r := h
  clear h
  have H' := Aside0.mk H
  clear H
  go_enter Try.func24, Try.ntmps24
  go_wp2
  repeat (go_quiet (fail); try go_wp2)
  go_loopg [5, 6] k (fun kq v5 v6 w' => ∃ (x5_1 : List (S50)) (x6_1 : Int), v6 = .int .i64 x6_1 ∧ Aside0 (hayloftref18_Missing.l0 kq l0 l1 x5_1 x6_1 = some r) ∧ Aside0 (kq ≤ k) ∧ Aside0 (Kd.R k50 50 w' w.heap.size (fun _ => True) v5 x5_1) ∧ Aside0 (Below w.heap.size w w'))
  case atStart => exact ⟨(([] : List (S50))), (0), (by first | rfl | (simp; done) | (simp [*]; done)), H', ⟨Nat.le_refl _⟩, ⟨by first | exact Kd.R_nil _ _ _ _ _ | exact Kd.N_nil _ _ _ _ _ | exact Kd.V_nil _ _ _ _ _ | exact Kd.Q_nil _ _ _ _ _ | exact Kd.S_nil _ _ _ _ _⟩, ⟨by repeat (first | (with_reducible first | exact HB.out | apply below_alloc | apply pw_below_drewN | apply below_drew1) | exact HB.out)⟩⟩
  case round =>
    clear H'
    try clear c1
    try clear c2
    try clear p2
    obtain ⟨x5_1, x6_1, rfl, HA, HK1, HO_5, HB⟩ := hrel
    cases gk with
    | zero => exact absurd HA.out (by simp [hayloftref18_Missing.l0])
    | succ k1 =>
      have H := HA.out
      clear HA
      simp only [hayloftref18_Missing.l0] at H
      by_cases c3 : x6_1 < (l0.length : Int)
      · rw [if_pos c3] at H
        have c3b0 : decide (x6_1 < (l0.length : Int)) = true := decide_eq_true c3
        clear c3
        have H' := Aside0.mk H
        clear H
        go_wp2
        repeat (go_quiet (fail); try go_wp2)
        go_loopg [7, 8] k1 (fun kq v7 v8 w' => ∃ (x7_2 : Bool) (x8_2 : Int), v7 = .bool x7_2 ∧ v8 = .int .i64 x8_2 ∧ Aside0 (hayloftref18_Missing.l1 kq l0 l1 x5_1 x6_1 x7_2 x8_2 = some r) ∧ Aside0 (kq ≤ k1) ∧ Aside0 (Kd.R k50 50 w' w.heap.size (fun _ => True) u5 x5_1) ∧ Aside0 (Below w.heap.size w w'))
        case atStart => exact ⟨(false), (0), (by first | rfl | (simp; done) | (simp [*]; done)), (by first | rfl | (simp; done) | (simp [*]; done)), H', ⟨Nat.le_refl _⟩, ⟨by (with_reducible repeat (first | apply Kd.R_alloc | apply Kd.R_drewN | apply Kd.R_drew)); exact HO_5.out⟩, ⟨by repeat (first | (with_reducible first | exact HB.out | apply below_alloc | apply pw_below_drewN | apply below_drew1) | exact HB.out)⟩⟩
        case round =>
          clear H'
          try clear c1
          try clear c2
          try clear p2
          try clear c3
          try clear c3b0
          try clear p2
          obtain ⟨x7_2, x8_2, rfl, rfl, HA, HK2, HO_5, HB⟩ := hrel
          cases gk with
          | zero => exact absurd HA.out (by simp [hayloftref18_Missing.l1])
          | succ k2 =>
            have H := HA.out
            clear HA
            simp only [hayloftref18_Missing.l1] at H
            by_cases c4 : x8_2 < (l1.length : Int)
            · rw [if_pos c4] at H
              have c4b0 : decide (x8_2 < (l1.length : Int)) = true := decide_eq_true c4
              clear c4
              by_cases c5 : 0 ≤ x8_2
              · rw [if_pos c5] at H
                have c5b0 : decide (0 ≤ x8_2) = true := decide_eq_true c5
                clear c5
                by_cases c6 : 0 ≤ x6_1
                · rw [if_pos c6] at H
                  have c6b0 : decide (0 ≤ x6_1) = true := decide_eq_true c6
                  clear c6
                  by_cases c7 : x6_1 < (l0.length : Int)
                  · rw [if_pos c7] at H
                    have c7b0 : decide (x6_1 < (l0.length : Int)) = true := decide_eq_true c7
                    clear c7
                    by_cases c8 : (((rd_T66 l1 x8_2).f0.f0) == ((rd_T50 l0 x6_1).f0) && (((rd_T66 l1 x8_2).f0.f1) == ((rd_T50 l0 x6_1).f1))) = true
                    · rw [if_pos c8] at H
                      have c8b0 : (((rd_T66 l1 x8_2).f0.f0) == ((rd_T50 l0 x6_1).f0) && (((rd_T66 l1 x8_2).f0.f1) == ((rd_T50 l0 x6_1).f1))) = true := c8
                      (try (have c8b1 : decide (((rd_T66 l1 x8_2).f0.f0) = ((rd_T50 l0 x6_1).f0) && (((rd_T66 l1 x8_2).f0.f1) == ((rd_T50 l0 x6_1).f1))) = true := by simpa using c8))
                      (try (have c8b2 : (((rd_T66 l1 x8_2).f0.f0) == ((rd_T50 l0 x6_1).f0) && (((rd_T66 l1 x8_2).f0.f1) == ((rd_T50 l0 x6_1).f1))) = true := by simpa using c8))
                      clear c8
                      have H' := Aside0.mk H
                      clear H
                      have p226 : 0 ≤ (x8_2 : Int) := of_decide_eq_true (by first | (with_reducible assumption) | assumption)
                      have q226 : x8_2 < (l1.length : Int) := of_decide_eq_true (by first | (with_reducible assumption) | assumption)
                      obtain ⟨ad226, A226_2, c226_2, e226, hx226_0, hx226_1, hx226_2, hl226_2, hi226_2⟩ := at_T66 HR1.out x8_2 p226 q226
                      cases e226
                      replace hx226_0 := (HB.out.cell (World.block_lt_of_cell? w _ hx226_0)).trans hx226_0
                      replace hx226_1 := (HB.out.cell (World.block_lt_of_cell? w _ hx226_1)).trans hx226_1
                      replace hx226_2 := (HB.out.cell (World.block_lt_of_cell? w _ hx226_2)).trans hx226_2
                      have HR226_2 := Aside0.mk hi226_2
                      have HC226_2 := Aside0.mk hl226_2
                      clear hi226_2 hl226_2
                      replace p226 := eq_true p226
                      replace q226 := eq_true q226
                      have p227 : 0 ≤ (x6_1 : Int) := of_decide_eq_true (by first | (with_reducible assumption) | assumption)
                      have q227 : x6_1 < (l0.length : Int) := of_decide_eq_true (by first | (with_reducible assumption) | assumption)
                      obtain ⟨ad227, e227, hx227_0, hx227_1⟩ := at_T50 HR0.out x6_1 p227 q227
                      cases e227
                      replace hx227_0 := (HB.out.cell (World.block_lt_of_cell? w _ hx227_0)).trans hx227_0
                      replace hx227_1 := (HB.out.cell (World.block_lt_of_cell? w _ hx227_1)).trans hx227_1
                      replace p227 := eq_true p227
                      replace q227 := eq_true q227
                      go_wp2
                      repeat (go_quiet (fail); try go_wp2)
                      go_roundg k2
                      case measure => have := HK1.out; have := HK2.out; omega
                      case rel => exact ⟨(true), (wrap64 (x8_2 + 1)), (by first | rfl | (simp; done) | (simp [*]; done)), (by first | rfl | (simp; done) | (simp [*]; done)), H', ⟨by have := HK1.out; have := HK2.out; omega⟩, ⟨by (with_reducible repeat (first | apply Kd.R_alloc | apply Kd.R_drewN | apply Kd.R_drew)); exact HO_5.out⟩, ⟨by repeat (first | (with_reducible first | exact HB.out | apply below_alloc | apply pw_below_drewN | apply below_drew1) | exact HB.out)⟩⟩
                    · rw [if_neg c8] at H
                      have c8b0 : (((rd_T66 l1 x8_2).f0.f0) == ((rd_T50 l0 x6_1).f0) && (((rd_T66 l1 x8_2).f0.f1) == ((rd_T50 l0 x6_1).f1))) = false := by simpa using c8
                      (try (have c8b1 : decide (((rd_T66 l1 x8_2).f0.f0) = ((rd_T50 l0 x6_1).f0) && (((rd_T66 l1 x8_2).f0.f1) == ((rd_T50 l0 x6_1).f1))) = false := by simpa using c8))
                      (try (have c8b2 : (((rd_T66 l1 x8_2).f0.f0) == ((rd_T50 l0 x6_1).f0) && (((rd_T66 l1 x8_2).f0.f1) == ((rd_T50 l0 x6_1).f1))) = false := by simpa using c8))
                      (try (have c8b3 : ¬ (((rd_T66 l1 x8_2).f0.f0) = ((rd_T50 l0 x6_1).f0) && (((rd_T66 l1 x8_2).f0.f1) == ((rd_T50 l0 x6_1).f1))) := by simpa using c8))
                      clear c8
                      have H' := Aside0.mk H
                      clear H
                      have p226 : 0 ≤ (x8_2 : Int) := of_decide_eq_true (by first | (with_reducible assumption) | assumption)
                      have q226 : x8_2 < (l1.length : Int) := of_decide_eq_true (by first | (with_reducible assumption) | assumption)
                      obtain ⟨ad226, A226_2, c226_2, e226, hx226_0, hx226_1, hx226_2, hl226_2, hi226_2⟩ := at_T66 HR1.out x8_2 p226 q226
                      cases e226
                      replace hx226_0 := (HB.out.cell (World.block_lt_of_cell? w _ hx226_0)).trans hx226_0
                      replace hx226_1 := (HB.out.cell (World.block_lt_of_cell? w _ hx226_1)).trans hx226_1
                      replace hx226_2 := (HB.out.cell (World.block_lt_of_cell? w _ hx226_2)).trans hx226_2
                      have HR226_2 := Aside0.mk hi226_2
                      have HC226_2 := Aside0.mk hl226_2
                      clear hi226_2 hl226_2
                      replace p226 := eq_true p226
                      replace q226 := eq_true q226
                      have p227 : 0 ≤ (x6_1 : Int) := of_decide_eq_true (by first | (with_reducible assumption) | assumption)
                      have q227 : x6_1 < (l0.length : Int) := of_decide_eq_true (by first | (with_reducible assumption) | assumption)
                      obtain ⟨ad227, e227, hx227_0, hx227_1⟩ := at_T50 HR0.out x6_1 p227 q227
                      cases e227
                      replace hx227_0 := (HB.out.cell (World.block_lt_of_cell? w _ hx227_0)).trans hx227_0
                      replace hx227_1 := (HB.out.cell (World.block_lt_of_cell? w _ hx227_1)).trans hx227_1
                      replace p227 := eq_true p227
                      replace q227 := eq_true q227
                      go_wp2
                      repeat (go_quiet (fail); try go_wp2)
                      go_roundg k2
                      case measure => have := HK1.out; have := HK2.out; omega
                      case rel => exact ⟨(x7_2), (wrap64 (x8_2 + 1)), (by first | rfl | (simp; done) | (simp [*]; done)), (by first | rfl | (simp; done) | (simp [*]; done)), H', ⟨by have := HK1.out; have := HK2.out; omega⟩, ⟨by (with_reducible repeat (first | apply Kd.R_alloc | apply Kd.R_drewN | apply Kd.R_drew)); exact HO_5.out⟩, ⟨by repeat (first | (with_reducible first | exact HB.out | apply below_alloc | apply pw_below_drewN | apply below_drew1) | exact HB.out)⟩⟩
                  · rw [if_neg c7] at H
                    exact absurd H (by simp)
                · rw [if_neg c6] at H
                  exact absurd H (by simp)
              · rw [if_neg c5] at H
                exact absurd H (by simp)
            · rw [if_neg c4] at H
              have c4b0 : decide (x8_2 < (l1.length : Int)) = false := decide_eq_false c4
              clear c4
              by_cases c9 : x7_2 = true
              · subst c9
                have H1 : (hayloftref18_Missing.l0 k2 l0 l1 x5_1 (wrap64 (x6_1 + 1))) = some r := by rw [if_pos rfl] at H; exact H
                clear H
                have H := H1
                clear H1
                have H' := Aside0.mk H
                clear H
                go_wp2
                repeat (go_quiet (fail); try go_wp2)
                go_roundg k2
                case measure => have := HK1.out; have := HK2.out; omega
                case rel => exact ⟨(x5_1), (wrap64 (x6_1 + 1)), (by first | rfl | (simp; done) | (simp [*]; done)), H', ⟨by have := HK1.out; have := HK2.out; omega⟩, ⟨by (with_reducible repeat (first | apply Kd.R_alloc | apply Kd.R_drewN | apply Kd.R_drew)); exact HO_5.out⟩, ⟨by repeat (first | (with_reducible first | exact HB.out | apply below_alloc | apply pw_below_drewN | apply below_drew1) | exact HB.out)⟩⟩
              · replace c9 := Bool.eq_false_iff.mpr c9
                subst c9
                have H1 : (if 0 ≤ x6_1 then (if x6_1 < (l0.length : Int) then (if x5_1.length < 8796093022208 then (hayloftref18_Missing.l0 k2 l0 l1 (x5_1 ++ [(⟨(rd_T50 l0 x6_1).f0, (rd_T50 l0 x6_1).f1⟩ : S50)]) (wrap64 (x6_1 + 1))) else (none)) else (none)) else (none)) = some r := by rw [if_neg (show ¬ (false = true) by decide)] at H; exact H
                clear H
                have H := H1
                clear H1
                by_cases c10 : 0 ≤ x6_1
                · rw [if_pos c10] at H
                  have c10b0 : decide (0 ≤ x6_1) = true := decide_eq_true c10
                  clear c10
                  by_cases c11 : x6_1 < (l0.length : Int)
                  · rw [if_pos c11] at H
                    have c11b0 : decide (x6_1 < (l0.length : Int)) = true := decide_eq_true c11
                    clear c11
                    by_cases c12 : x5_1.length < 8796093022208
                    · rw [if_pos c12] at H
                      have LMc12 := Aside0.mk c12
                      clear c12
                      obtain ⟨y229, hy229⟩ : ∃ y_ : List (S50), y_ = (x5_1 ++ [(⟨(rd_T50 l0 x6_1).f0, (rd_T50 l0 x6_1).f1⟩ : S50)]) := ⟨_, rfl⟩
                      replace H : (hayloftref18_Missing.l0 k2 l0 l1 y229 (wrap64 (x6_1 + 1))) = some r := by first | (rw [hy229]; with_reducible exact H) | (have H2_ := (Option.bind_some _ _).symm.trans H; rw [hy229]; with_reducible exact H2_) | (have H2_ := (Option.bind_some _ _).symm.trans H; with_reducible exact H2_) | with_reducible exact H | (rw [hy229]; exact H) | exact H
                      have Ny229 := Aside0.mk hy229
                      clear hy229
                      have H' := Aside0.mk H
                      clear H
                      have p228 : 0 ≤ (x6_1 : Int) := of_decide_eq_true (by first | (with_reducible assumption) | assumption)
                      have q228 : x6_1 < (l0.length : Int) := of_decide_eq_true (by first | (with_reducible assumption) | assumption)
                      obtain ⟨ad228, e228, hx228_0, hx228_1⟩ := at_T50 HR0.out x6_1 p228 q228
                      cases e228
                      replace hx228_0 := (HB.out.cell (World.block_lt_of_cell? w _ hx228_0)).trans hx228_0
                      replace hx228_1 := (HB.out.cell (World.block_lt_of_cell? w _ hx228_1)).trans hx228_1
                      replace p228 := eq_true p228
                      replace q228 := eq_true q228
                      go_wp2_with (first | ((with_reducible refine gate_builtin (b := .append) (xs := #[.tmp 33, .tmp 38]) rfl ?_); at_builtin; refine Kd.R_append k50 (w0 := w) w.heap.size rfl (.tmp 33) (.tmp 38) 46 50 (.agg #[(.int .i64 0), (.int .i64 0)]) 16 rfl Try.underlying46 info50 rfl (by decide) (by omega) u5 x5_1 (⟨(rd_T50 l0 x6_1).f0, (rd_T50 l0 x6_1).f1⟩ : S50) [.int .i64 ((rd_T50 l0 x6_1).f0), .int .i64 ((rd_T50 l0 x6_1).f1)] (fun _ => True) (fun _ => False) rfl rfl ?aP (fun _ hk => hk.elim) ?aF ?aO ?aB ?aS ?aL ?_; (case aP => exact k50_mkM _ _ _ (⟨(rd_T50 l0 x6_1).f0, (rd_T50 l0 x6_1).f1⟩ : S50)); (case aB => exact (by repeat (first | (with_reducible first | exact HB.out | apply below_alloc | apply pw_below_drewN | apply below_drew1) | exact HB.out))); (case aF => exact (fun _ _ => trivial)); (case aO => exact (by (with_reducible repeat (first | apply Kd.R_alloc | apply Kd.R_drewN | apply Kd.R_drew)); exact HO_5.out)); (case aS => exact (below_size (by repeat (first | (with_reducible first | exact HB.out | apply below_alloc | apply pw_below_drewN | apply below_drew1) | exact HB.out)))); (case aL => have := LMc12.out; omega); intro v230 w13 ho hb hg hat; rw [← Ny229.out] at ho; have n0_ := Aside0.mk (hb); have n1_ := Aside0.mk (ho); clear HB; clear HO_5; have HB := n0_; have HO231 := n1_; clear n0_ n1_; clear ho hb hg hat))
                      repeat (go_quiet (first | ((with_reducible refine gate_builtin (b := .append) (xs := #[.tmp 33, .tmp 38]) rfl ?_); at_builtin; refine Kd.R_append k50 (w0 := w) w.heap.size rfl (.tmp 33) (.tmp 38) 46 50 (.agg #[(.int .i64 0), (.int .i64 0)]) 16 rfl Try.underlying46 info50 rfl (by decide) (by omega) u5 x5_1 (⟨(rd_T50 l0 x6_1).f0, (rd_T50 l0 x6_1).f1⟩ : S50) [.int .i64 ((rd_T50 l0 x6_1).f0), .int .i64 ((rd_T50 l0 x6_1).f1)] (fun _ => True) (fun _ => False) rfl rfl ?aP (fun _ hk => hk.elim) ?aF ?aO ?aB ?aS ?aL ?_; (case aP => exact k50_mkM _ _ _ (⟨(rd_T50 l0 x6_1).f0, (rd_T50 l0 x6_1).f1⟩ : S50)); (case aB => exact (by repeat (first | (with_reducible first | exact HB.out | apply below_alloc | apply pw_below_drewN | apply below_drew1) | exact HB.out))); (case aF => exact (fun _ _ => trivial)); (case aO => exact (by (with_reducible repeat (first | apply Kd.R_alloc | apply Kd.R_drewN | apply Kd.R_drew)); exact HO_5.out)); (case aS => exact (below_size (by repeat (first | (with_reducible first | exact HB.out | apply below_alloc | apply pw_below_drewN | apply below_drew1) | exact HB.out)))); (case aL => have := LMc12.out; omega); intro v230 w13 ho hb hg hat; rw [← Ny229.out] at ho; have n0_ := Aside0.mk (hb); have n1_ := Aside0.mk (ho); clear HB; clear HO_5; have HB := n0_; have HO231 := n1_; clear n0_ n1_; clear ho hb hg hat)); try go_wp2_with (first | ((with_reducible refine gate_builtin (b := .append) (xs := #[.tmp 33, .tmp 38]) rfl ?_); at_builtin; refine Kd.R_append k50 (w0 := w) w.heap.size rfl (.tmp 33) (.tmp 38) 46 50 (.agg #[(.int .i64 0), (.int .i64 0)]) 16 rfl Try.underlying46 info50 rfl (by decide) (by omega) u5 x5_1 (⟨(rd_T50 l0 x6_1).f0, (rd_T50 l0 x6_1).f1⟩ : S50) [.int .i64 ((rd_T50 l0 x6_1).f0), .int .i64 ((rd_T50 l0 x6_1).f1)] (fun _ => True) (fun _ => False) rfl rfl ?aP (fun _ hk => hk.elim) ?aF ?aO ?aB ?aS ?aL ?_; (case aP => exact k50_mkM _ _ _ (⟨(rd_T50 l0 x6_1).f0, (rd_T50 l0 x6_1).f1⟩ : S50)); (case aB => exact (by repeat (first | (with_reducible first | exact HB.out | apply below_alloc | apply pw_below_drewN | apply below_drew1) | exact HB.out))); (case aF => exact (fun _ _ => trivial)); (case aO => exact (by (with_reducible repeat (first | apply Kd.R_alloc | apply Kd.R_drewN | apply Kd.R_drew)); exact HO_5.out)); (case aS => exact (below_size (by repeat (first | (with_reducible first | exact HB.out | apply below_alloc | apply pw_below_drewN | apply below_drew1) | exact HB.out)))); (case aL => have := LMc12.out; omega); intro v230 w13 ho hb hg hat; rw [← Ny229.out] at ho; have n0_ := Aside0.mk (hb); have n1_ := Aside0.mk (ho); clear HB; clear HO_5; have HB := n0_; have HO231 := n1_; clear n0_ n1_; clear ho hb hg hat)))
                      go_roundg k2
                      case measure => have := HK1.out; have := HK2.out; omega
                      case rel => exact ⟨(y229), (wrap64 (x6_1 + 1)), (by first | rfl | (simp; done) | (simp [*]; done)), H', ⟨by have := HK1.out; have := HK2.out; omega⟩, ⟨by (with_reducible repeat (first | apply Kd.R_alloc | apply Kd.R_drewN | apply Kd.R_drew)); exact HO231.out⟩, ⟨by repeat (first | (with_reducible first | exact HB.out | apply below_alloc | apply pw_below_drewN | apply below_drew1) | exact HB.out)⟩⟩
                    · rw [if_neg c12] at H
                      exact absurd H (by simp)
                  · rw [if_neg c11] at H
                    exact absurd H (by simp)
                · rw [if_neg c10] at H
                  exact absurd H (by simp)
      · rw [if_neg c3] at H
        have c3b0 : decide (x6_1 < (l0.length : Int)) = false := decide_eq_false c3
        clear c3
        obtain rfl := Option.some.inj H
        go_wp2
        repeat (go_quiet (fail); try go_wp2)
        go_ret
        exact ⟨_, by first | rfl | (simp [errW_none, errW_some] <;> rfl) | (simp [*, errW_none, errW_some] <;> rfl), by (with_reducible repeat (first | apply Kd.R_alloc | apply Kd.R_drewN | apply Kd.R_drew)); exact HO_5.out, by repeat (first | (with_reducible first | exact HB.out | apply below_alloc | apply pw_below_drewN | apply below_drew1) | exact HB.out)⟩

/-! ### hayloftlaw18_RecoverMissing: function 8 -/
mutual
def hayloftlaw18_RecoverMissing.j0 : Nat → List (S50) → List (S50) → Bool → Option (Bool)
  | 0, _, _, _ => none
  | k + 1, x5, x6, x22 => if x22 = true then (some false) else (hayloftlaw18_RecoverMissing.l0 k x5 x6 (x5.length : Int) 0)
def hayloftlaw18_RecoverMissing.l0 : Nat → List (S50) → List (S50) → Int → Int → Option (Bool)
  | 0, _, _, _, _ => none
  | k + 1, x5, x6, x24, x25 => if x25 < x24 then (if 0 ≤ x25 then (if x25 < (x5.length : Int) then (if x25 < (x6.length : Int) then (if (!(((rd_T50 x5 x25).f0) == ((rd_T50 x6 x25).f0)) || (!(((rd_T50 x5 x25).f1) == ((rd_T50 x6 x25).f1)))) = true then (some false) else (hayloftlaw18_RecoverMissing.l0 k x5 x6 x24 (wrap64 (x25 + 1)))) else (none)) else (none)) else (none)) else (some true)
end
def hayloftlaw18_RecoverMissing.f (k : Nat) (l0 : List (S50)) (l1 : List (S66)) : Option (Bool) := (recover_Missing.f l0 l1).bind fun t232 => ((hayloftref18_Missing.f k l0 l1).bind fun t235 => ((hayloftlaw18_alive.f).bind fun t238 => (if t238 = true then (hayloftlaw18_RecoverMissing.j0 k t232 t235 ((t232.length : Int) != (t235.length : Int))) else (hayloftlaw18_RecoverMissing.j0 k t232 t235 true))))
theorem hayloftlaw18_RecoverMissing.mono_l : ∀ k, (∀ y0 y1 y2, LeO (hayloftlaw18_RecoverMissing.j0 k y0 y1 y2) (hayloftlaw18_RecoverMissing.j0 (k + 1) y0 y1 y2)) ∧ (∀ y0 y1 y2 y3, LeO (hayloftlaw18_RecoverMissing.l0 k y0 y1 y2 y3) (hayloftlaw18_RecoverMissing.l0 (k + 1) y0 y1 y2 y3))
  | 0 => ⟨fun _ _ _ r h => by simp [hayloftlaw18_RecoverMissing.j0] at h, fun _ _ _ _ r h => by simp [hayloftlaw18_RecoverMissing.l0] at h⟩
  | k + 1 => by
    obtain ⟨ih0, ih1⟩ := hayloftlaw18_RecoverMissing.mono_l k
    refine ⟨?_, ?_⟩
    · intro y0 y1 y2
      unfold hayloftlaw18_RecoverMissing.j0
      repeat' first
      | (with_reducible exact ih0 _ _ _)
      | (with_reducible exact ih1 _ _ _ _)
      | (with_reducible exact hayloftref18_Missing.mono _ _ _)
      | (with_reducible exact LeO.refl _)
      | (with_reducible exact LeO.none _)
      | (with_reducible refine LeO.ite ?_ ?_)
      | (with_reducible refine LeO.bind ?_ (fun _ => ?_))
      | exact ih0 _ _ _
      | exact ih1 _ _ _ _
      | exact hayloftref18_Missing.mono _ _ _
      | exact LeO.none _
      | refine LeO.ite ?_ ?_
      | refine LeO.bind ?_ (fun _ => ?_)
    · intro y0 y1 y2 y3
      unfold hayloftlaw18_RecoverMissing.l0
      repeat' first
      | (with_reducible exact ih0 _ _ _)
      | (with_reducible exact ih1 _ _ _ _)
      | (with_reducible exact hayloftref18_Missing.mono _ _ _)
      | (with_reducible exact LeO.refl _)
      | (with_reducible exact LeO.none _)
      | (with_reducible refine LeO.ite ?_ ?_)
      | (with_reducible refine LeO.bind ?_ (fun _ => ?_))
      | exact ih0 _ _ _
      | exact ih1 _ _ _ _
      | exact hayloftref18_Missing.mono _ _ _
      | exact LeO.none _
      | refine LeO.ite ?_ ?_
      | refine LeO.bind ?_ (fun _ => ?_)
theorem hayloftlaw18_RecoverMissing.mono : ∀ a0 a1 k, LeO (hayloftlaw18_RecoverMissing.f k a0 a1) (hayloftlaw18_RecoverMissing.f (k + 1) a0 a1) := by
  intro a0 a1 k
  obtain ⟨ih0, ih1⟩ := hayloftlaw18_RecoverMissing.mono_l k
  unfold hayloftlaw18_RecoverMissing.f
  repeat' first
      | (with_reducible exact ih0 _ _ _)
      | (with_reducible exact ih1 _ _ _ _)
      | (with_reducible exact hayloftref18_Missing.mono _ _ _)
      | (with_reducible exact LeO.refl _)
      | (with_reducible exact LeO.none _)
      | (with_reducible refine LeO.ite ?_ ?_)
      | (with_reducible refine LeO.bind ?_ (fun _ => ?_))
      | exact ih0 _ _ _
      | exact ih1 _ _ _ _
      | exact hayloftref18_Missing.mono _ _ _
      | exact LeO.none _
      | refine LeO.ite ?_ ?_
      | refine LeO.bind ?_ (fun _ => ?_)
set_option maxHeartbeats 8000000 in
set_option maxRecDepth 100000 in
theorem hayloftlaw18_RecoverMissing.calls (k : Nat) (A0 : Option Addr) (c0 : Nat) (l0 : List (S50)) (A1 : Option Addr) (c1 : Nat) (l1 : List (S66)) (r : Bool) (w : World) (hr0 : Kd.C k50 w A0 l0.length l0) (hc0 : l0.length ≤ c0) (hr1 : Kd.C k66 w A1 l1.length l1) (hc1 : l1.length ≤ c1) (h : hayloftlaw18_RecoverMissing.f k l0 l1 = some r) :
    Calls Try.prog 8 #[.slice A0 l0.length c0, .slice A1 l1.length c1] w fun e w' => e = .returned (.bool r) ∧ Below w.heap.size w w' := by
  have hu50 := Try.underlying50
  have HR0 := Aside0.mk hr0
  have HC0 := Aside0.mk hc0
  clear hr0 hc0
  have HR1 := Aside0.mk hr1
  have HC1 := Aside0.mk hc1
  clear hr1 hc1
  have HB := Aside0.mk (Below.refl w.heap.size w)
  have H : ((recover_Missing.f l0 l1).bind fun t232 => ((hayloftref18_Missing.f k l0 l1).bind fun t235 => ((hayloftlaw18_alive.f).bind fun t238 => (if t238 = true then (hayloftlaw18_RecoverMissing.j0 k t232 t235 ((t232.length : Int) != (t235.length : Int))) else (hayloftlaw18_RecoverMissing.j0 k t232 t235 true))))) = some r := h
  clear h
  replace H := Option.bind_eq_some_iff.mp H
  obtain ⟨t232, A30, H⟩ := H
  replace H : ((hayloftref18_Missing.f k l0 l1).bind fun t235 => ((hayloftlaw18_alive.f).bind fun t238 => (if t238 = true then (hayloftlaw18_RecoverMissing.j0 k t232 t235 ((t232.length : Int) != (t235.length : Int))) else (hayloftlaw18_RecoverMissing.j0 k t232 t235 true)))) = some r := H
  have A3 := Aside0.mk A30
  clear A30
  replace H := Option.bind_eq_some_iff.mp H
  obtain ⟨t235, A40, H⟩ := H
  replace H : ((hayloftlaw18_alive.f).bind fun t238 => (if t238 = true then (hayloftlaw18_RecoverMissing.j0 k t232 t235 ((t232.length : Int) != (t235.length : Int))) else (hayloftlaw18_RecoverMissing.j0 k t232 t235 true))) = some r := H
  have A4 := Aside0.mk A40
  clear A40
  have HC5 := Aside0.mk H
  clear H
  go_enter Try.func8, Try.ntmps8
  go_upto_region 2 with (first | (go_at_call 23; (with_reducible refine (recover_Missing.calls _ _ l0 _ _ l1 t232 _ ?side1 ?side2 ?side3 ?side4 A3.out).mono ?_); (case side1 => repeat (first | exact HR0.out | (with_reducible refine Kd.C_alloc ?_ _) | (with_reducible refine Kd.C_drewN ?_ _) | (with_reducible refine Kd.C_drew ?_))); (case side2 => exact HC0.out); (case side3 => repeat (first | exact HR1.out | (with_reducible refine Kd.C_alloc ?_ _) | (with_reducible refine Kd.C_drewN ?_ _) | (with_reducible refine Kd.C_drew ?_))); (case side4 => exact HC1.out); rintro e w6 ⟨v233, rfl, ho0, hb⟩; have n0_ := Aside0.mk (Kd.R_lower ho0 (below_size (by repeat (first | (with_reducible first | exact HB.out | apply below_alloc | apply pw_below_drewN | apply below_drew1) | exact HB.out)))); have n1_ := Aside0.mk (below_step (by repeat (first | (with_reducible first | exact HB.out | apply below_alloc | apply pw_below_drewN | apply below_drew1) | exact HB.out)) hb); clear HB; have HO234 := n0_; have HB := n1_; clear n0_ n1_; (try clear hb); (try clear hb2); (try clear hk); (try clear hi); (try clear ho0)) | (go_at_call 24; (with_reducible refine (hayloftref18_Missing.calls k _ _ l0 _ _ l1 t235 _ ?side1 ?side2 ?side3 ?side4 A4.out).mono ?_); (case side1 => repeat (first | exact (Kd.C_below HR0.out HB.out) | (with_reducible refine Kd.C_alloc ?_ _) | (with_reducible refine Kd.C_drewN ?_ _) | (with_reducible refine Kd.C_drew ?_))); (case side2 => exact HC0.out); (case side3 => repeat (first | exact (Kd.C_below HR1.out HB.out) | (with_reducible refine Kd.C_alloc ?_ _) | (with_reducible refine Kd.C_drewN ?_ _) | (with_reducible refine Kd.C_drew ?_))); (case side4 => exact HC1.out); rintro e w7 ⟨v236, rfl, ho0, hb⟩; have n0_ := Aside0.mk (Kd.R_elder' (by (with_reducible repeat (first | apply Kd.R_alloc | apply Kd.R_drewN | apply Kd.R_drew)); exact HO234.out) (Kd.R_base ho0) hb); have n1_ := Aside0.mk (Kd.R_lower (Kd.R_new' ho0 (Kd.R_lt (by (with_reducible repeat (first | apply Kd.R_alloc | apply Kd.R_drewN | apply Kd.R_drew)); exact HO234.out))) (below_size (by repeat (first | (with_reducible first | exact HB.out | apply below_alloc | apply pw_below_drewN | apply below_drew1) | exact HB.out)))); have n2_ := Aside0.mk (below_step (by repeat (first | (with_reducible first | exact HB.out | apply below_alloc | apply pw_below_drewN | apply below_drew1) | exact HB.out)) hb); clear HO234; clear HB; have HO234 := n0_; have HO237 := n1_; have HB := n2_; clear n0_ n1_ n2_; (try clear hb); (try clear hb2); (try clear hk); (try clear hi); (try clear ho0)))
  repeat (go_quiet (first | (go_at_call 23; (with_reducible refine (recover_Missing.calls _ _ l0 _ _ l1 t232 _ ?side1 ?side2 ?side3 ?side4 A3.out).mono ?_); (case side1 => repeat (first | exact HR0.out | (with_reducible refine Kd.C_alloc ?_ _) | (with_reducible refine Kd.C_drewN ?_ _) | (with_reducible refine Kd.C_drew ?_))); (case side2 => exact HC0.out); (case side3 => repeat (first | exact HR1.out | (with_reducible refine Kd.C_alloc ?_ _) | (with_reducible refine Kd.C_drewN ?_ _) | (with_reducible refine Kd.C_drew ?_))); (case side4 => exact HC1.out); rintro e w6 ⟨v233, rfl, ho0, hb⟩; have n0_ := Aside0.mk (Kd.R_lower ho0 (below_size (by repeat (first | (with_reducible first | exact HB.out | apply below_alloc | apply pw_below_drewN | apply below_drew1) | exact HB.out)))); have n1_ := Aside0.mk (below_step (by repeat (first | (with_reducible first | exact HB.out | apply below_alloc | apply pw_below_drewN | apply below_drew1) | exact HB.out)) hb); clear HB; have HO234 := n0_; have HB := n1_; clear n0_ n1_; (try clear hb); (try clear hb2); (try clear hk); (try clear hi); (try clear ho0)) | (go_at_call 24; (with_reducible refine (hayloftref18_Missing.calls k _ _ l0 _ _ l1 t235 _ ?side1 ?side2 ?side3 ?side4 A4.out).mono ?_); (case side1 => repeat (first | exact (Kd.C_below HR0.out HB.out) | (with_reducible refine Kd.C_alloc ?_ _) | (with_reducible refine Kd.C_drewN ?_ _) | (with_reducible refine Kd.C_drew ?_))); (case side2 => exact HC0.out); (case side3 => repeat (first | exact (Kd.C_below HR1.out HB.out) | (with_reducible refine Kd.C_alloc ?_ _) | (with_reducible refine Kd.C_drewN ?_ _) | (with_reducible refine Kd.C_drew ?_))); (case side4 => exact HC1.out); rintro e w7 ⟨v236, rfl, ho0, hb⟩; have n0_ := Aside0.mk (Kd.R_elder' (by (with_reducible repeat (first | apply Kd.R_alloc | apply Kd.R_drewN | apply Kd.R_drew)); exact HO234.out) (Kd.R_base ho0) hb); have n1_ := Aside0.mk (Kd.R_lower (Kd.R_new' ho0 (Kd.R_lt (by (with_reducible repeat (first | apply Kd.R_alloc | apply Kd.R_drewN | apply Kd.R_drew)); exact HO234.out))) (below_size (by repeat (first | (with_reducible first | exact HB.out | apply below_alloc | apply pw_below_drewN | apply below_drew1) | exact HB.out)))); have n2_ := Aside0.mk (below_step (by repeat (first | (with_reducible first | exact HB.out | apply below_alloc | apply pw_below_drewN | apply below_drew1) | exact HB.out)) hb); clear HO234; clear HB; have HO234 := n0_; have HO237 := n1_; have HB := n2_; clear n0_ n1_ n2_; (try clear hb); (try clear hb2); (try clear hk); (try clear hi); (try clear ho0))); go_upto_region 2 with (first | (go_at_call 23; (with_reducible refine (recover_Missing.calls _ _ l0 _ _ l1 t232 _ ?side1 ?side2 ?side3 ?side4 A3.out).mono ?_); (case side1 => repeat (first | exact HR0.out | (with_reducible refine Kd.C_alloc ?_ _) | (with_reducible refine Kd.C_drewN ?_ _) | (with_reducible refine Kd.C_drew ?_))); (case side2 => exact HC0.out); (case side3 => repeat (first | exact HR1.out | (with_reducible refine Kd.C_alloc ?_ _) | (with_reducible refine Kd.C_drewN ?_ _) | (with_reducible refine Kd.C_drew ?_))); (case side4 => exact HC1.out); rintro e w6 ⟨v233, rfl, ho0, hb⟩; have n0_ := Aside0.mk (Kd.R_lower ho0 (below_size (by repeat (first | (with_reducible first | exact HB.out | apply below_alloc | apply pw_below_drewN | apply below_drew1) | exact HB.out)))); have n1_ := Aside0.mk (below_step (by repeat (first | (with_reducible first | exact HB.out | apply below_alloc | apply pw_below_drewN | apply below_drew1) | exact HB.out)) hb); clear HB; have HO234 := n0_; have HB := n1_; clear n0_ n1_; (try clear hb); (try clear hb2); (try clear hk); (try clear hi); (try clear ho0)) | (go_at_call 24; (with_reducible refine (hayloftref18_Missing.calls k _ _ l0 _ _ l1 t235 _ ?side1 ?side2 ?side3 ?side4 A4.out).mono ?_); (case side1 => repeat (first | exact (Kd.C_below HR0.out HB.out) | (with_reducible refine Kd.C_alloc ?_ _) | (with_reducible refine Kd.C_drewN ?_ _) | (with_reducible refine Kd.C_drew ?_))); (case side2 => exact HC0.out); (case side3 => repeat (first | exact (Kd.C_below HR1.out HB.out) | (with_reducible refine Kd.C_alloc ?_ _) | (with_reducible refine Kd.C_drewN ?_ _) | (with_reducible refine Kd.C_drew ?_))); (case side4 => exact HC1.out); rintro e w7 ⟨v236, rfl, ho0, hb⟩; have n0_ := Aside0.mk (Kd.R_elder' (by (with_reducible repeat (first | apply Kd.R_alloc | apply Kd.R_drewN | apply Kd.R_drew)); exact HO234.out) (Kd.R_base ho0) hb); have n1_ := Aside0.mk (Kd.R_lower (Kd.R_new' ho0 (Kd.R_lt (by (with_reducible repeat (first | apply Kd.R_alloc | apply Kd.R_drewN | apply Kd.R_drew)); exact HO234.out))) (below_size (by repeat (first | (with_reducible first | exact HB.out | apply below_alloc | apply pw_below_drewN | apply below_drew1) | exact HB.out)))); have n2_ := Aside0.mk (below_step (by repeat (first | (with_reducible first | exact HB.out | apply below_alloc | apply pw_below_drewN | apply below_drew1) | exact HB.out)) hb); clear HO234; clear HB; have HO234 := n0_; have HO237 := n1_; have HB := n2_; clear n0_ n1_ n2_; (try clear hb); (try clear hb2); (try clear hk); (try clear hi); (try clear ho0))))
  (try simp only [Act.put, List.setIfInBounds_toArray, List.set_cons_zero, List.set_cons_succ])
  go_cut [22] (fun v22 wc => ∃ (kq : Nat) (x22_4 : Bool), v22 = .bool x22_4 ∧ Aside0 (hayloftlaw18_RecoverMissing.j0 kq t232 t235 x22_4 = some r) ∧ Aside0 (kq ≤ k) ∧ Aside0 (Kd.R k50 50 wc w.heap.size (fun k_ => some k_ ≠ (v236 : Value).ownBlock) v233 t232) ∧ Aside0 (Kd.R k50 50 wc w.heap.size (fun k_ => some k_ ≠ (v233 : Value).ownBlock) v236 t235) ∧ Aside0 (Below w.heap.size w wc))
  case first =>
    have H := HC5.out
    clear HC5
    replace H := Option.bind_eq_some_iff.mp H
    obtain ⟨t238, A80, H⟩ := H
    replace H : (if t238 = true then (hayloftlaw18_RecoverMissing.j0 k t232 t235 ((t232.length : Int) != (t235.length : Int))) else (hayloftlaw18_RecoverMissing.j0 k t232 t235 true)) = some r := H
    have A8 := Aside0.mk A80
    clear A80
    by_cases c9 : t238 = true
    · subst c9
      have H1 : (hayloftlaw18_RecoverMissing.j0 k t232 t235 ((t232.length : Int) != (t235.length : Int))) = some r := by rw [if_pos rfl] at H; exact H
      clear H
      have H := H1
      clear H1
      have H' := Aside0.mk H
      clear H
      go_wp2_with (first | (go_at_call 13; (with_reducible refine (hayloftlaw18_alive.calls  true _ A8.out).mono ?_); rintro e w10 ⟨rfl, hb⟩; have n0_ := Aside0.mk (Kd.R_below (by (with_reducible repeat (first | apply Kd.R_alloc | apply Kd.R_drewN | apply Kd.R_drew)); exact HO234.out) hb); have n1_ := Aside0.mk (Kd.R_below (by (with_reducible repeat (first | apply Kd.R_alloc | apply Kd.R_drewN | apply Kd.R_drew)); exact HO237.out) hb); have n2_ := Aside0.mk (below_step (by repeat (first | (with_reducible first | exact HB.out | apply below_alloc | apply pw_below_drewN | apply below_drew1) | exact HB.out)) hb); clear HO234; clear HO237; clear HB; have HO234 := n0_; have HO237 := n1_; have HB := n2_; clear n0_ n1_ n2_; (try clear hb); (try clear hb2); (try clear hk); (try clear hi); obtain ⟨Ao11, co11, eo11⟩ := Kd.R_slice HO234.out; subst eo11; obtain ⟨Ao12, co12, eo12⟩ := Kd.R_slice HO237.out; subst eo12))
      repeat (go_quiet (first | (go_at_call 13; (with_reducible refine (hayloftlaw18_alive.calls  true _ A8.out).mono ?_); rintro e w10 ⟨rfl, hb⟩; have n0_ := Aside0.mk (Kd.R_below (by (with_reducible repeat (first | apply Kd.R_alloc | apply Kd.R_drewN | apply Kd.R_drew)); exact HO234.out) hb); have n1_ := Aside0.mk (Kd.R_below (by (with_reducible repeat (first | apply Kd.R_alloc | apply Kd.R_drewN | apply Kd.R_drew)); exact HO237.out) hb); have n2_ := Aside0.mk (below_step (by repeat (first | (with_reducible first | exact HB.out | apply below_alloc | apply pw_below_drewN | apply below_drew1) | exact HB.out)) hb); clear HO234; clear HO237; clear HB; have HO234 := n0_; have HO237 := n1_; have HB := n2_; clear n0_ n1_ n2_; (try clear hb); (try clear hb2); (try clear hk); (try clear hi); obtain ⟨Ao11, co11, eo11⟩ := Kd.R_slice HO234.out; subst eo11; obtain ⟨Ao12, co12, eo12⟩ := Kd.R_slice HO237.out; subst eo12)); try go_wp2_with (first | (go_at_call 13; (with_reducible refine (hayloftlaw18_alive.calls  true _ A8.out).mono ?_); rintro e w10 ⟨rfl, hb⟩; have n0_ := Aside0.mk (Kd.R_below (by (with_reducible repeat (first | apply Kd.R_alloc | apply Kd.R_drewN | apply Kd.R_drew)); exact HO234.out) hb); have n1_ := Aside0.mk (Kd.R_below (by (with_reducible repeat (first | apply Kd.R_alloc | apply Kd.R_drewN | apply Kd.R_drew)); exact HO237.out) hb); have n2_ := Aside0.mk (below_step (by repeat (first | (with_reducible first | exact HB.out | apply below_alloc | apply pw_below_drewN | apply below_drew1) | exact HB.out)) hb); clear HO234; clear HO237; clear HB; have HO234 := n0_; have HO237 := n1_; have HB := n2_; clear n0_ n1_ n2_; (try clear hb); (try clear hb2); (try clear hk); (try clear hi); obtain ⟨Ao11, co11, eo11⟩ := Kd.R_slice HO234.out; subst eo11; obtain ⟨Ao12, co12, eo12⟩ := Kd.R_slice HO237.out; subst eo12)))
      go_meet
      case rel => exact ⟨_, (((t232.length : Int) != (t235.length : Int))), (by first | rfl | (simp; done) | (simp [*]; done)), H', ⟨by first | omega | exact Nat.le_refl _⟩, ⟨by (with_reducible repeat (first | apply Kd.R_alloc | apply Kd.R_drewN | apply Kd.R_drew)); exact Kd.R_mono HO234.out (fun _ hk => hk.2)⟩, ⟨by (with_reducible repeat (first | apply Kd.R_alloc | apply Kd.R_drewN | apply Kd.R_drew)); exact Kd.R_mono HO237.out (fun _ hk => hk.2)⟩, ⟨by repeat (first | (with_reducible first | exact HB.out | apply below_alloc | apply pw_below_drewN | apply below_drew1) | exact HB.out)⟩⟩
    · replace c9 := Bool.eq_false_iff.mpr c9
      subst c9
      have H1 : (hayloftlaw18_RecoverMissing.j0 k t232 t235 true) = some r := by rw [if_neg (show ¬ (false = true) by decide)] at H; exact H
      clear H
      have H := H1
      clear H1
      have H' := Aside0.mk H
      clear H
      go_wp2_with (first | (go_at_call 13; (with_reducible refine (hayloftlaw18_alive.calls  false _ A8.out).mono ?_); rintro e w13 ⟨rfl, hb⟩; have n0_ := Aside0.mk (Kd.R_below (by (with_reducible repeat (first | apply Kd.R_alloc | apply Kd.R_drewN | apply Kd.R_drew)); exact HO234.out) hb); have n1_ := Aside0.mk (Kd.R_below (by (with_reducible repeat (first | apply Kd.R_alloc | apply Kd.R_drewN | apply Kd.R_drew)); exact HO237.out) hb); have n2_ := Aside0.mk (below_step (by repeat (first | (with_reducible first | exact HB.out | apply below_alloc | apply pw_below_drewN | apply below_drew1) | exact HB.out)) hb); clear HO234; clear HO237; clear HB; have HO234 := n0_; have HO237 := n1_; have HB := n2_; clear n0_ n1_ n2_; (try clear hb); (try clear hb2); (try clear hk); (try clear hi)))
      repeat (go_quiet (first | (go_at_call 13; (with_reducible refine (hayloftlaw18_alive.calls  false _ A8.out).mono ?_); rintro e w13 ⟨rfl, hb⟩; have n0_ := Aside0.mk (Kd.R_below (by (with_reducible repeat (first | apply Kd.R_alloc | apply Kd.R_drewN | apply Kd.R_drew)); exact HO234.out) hb); have n1_ := Aside0.mk (Kd.R_below (by (with_reducible repeat (first | apply Kd.R_alloc | apply Kd.R_drewN | apply Kd.R_drew)); exact HO237.out) hb); have n2_ := Aside0.mk (below_step (by repeat (first | (with_reducible first | exact HB.out | apply below_alloc | apply pw_below_drewN | apply below_drew1) | exact HB.out)) hb); clear HO234; clear HO237; clear HB; have HO234 := n0_; have HO237 := n1_; have HB := n2_; clear n0_ n1_ n2_; (try clear hb); (try clear hb2); (try clear hk); (try clear hi))); try go_wp2_with (first | (go_at_call 13; (with_reducible refine (hayloftlaw18_alive.calls  false _ A8.out).mono ?_); rintro e w13 ⟨rfl, hb⟩; have n0_ := Aside0.mk (Kd.R_below (by (with_reducible repeat (first | apply Kd.R_alloc | apply Kd.R_drewN | apply Kd.R_drew)); exact HO234.out) hb); have n1_ := Aside0.mk (Kd.R_below (by (with_reducible repeat (first | apply Kd.R_alloc | apply Kd.R_drewN | apply Kd.R_drew)); exact HO237.out) hb); have n2_ := Aside0.mk (below_step (by repeat (first | (with_reducible first | exact HB.out | apply below_alloc | apply pw_below_drewN | apply below_drew1) | exact HB.out)) hb); clear HO234; clear HO237; clear HB; have HO234 := n0_; have HO237 := n1_; have HB := n2_; clear n0_ n1_ n2_; (try clear hb); (try clear hb2); (try clear hk); (try clear hi))))
      go_meet
      case rel => exact ⟨_, (true), (by first | rfl | (simp; done) | (simp [*]; done)), H', ⟨by first | omega | exact Nat.le_refl _⟩, ⟨by (with_reducible repeat (first | apply Kd.R_alloc | apply Kd.R_drewN | apply Kd.R_drew)); exact Kd.R_mono HO234.out (fun _ hk => hk.2)⟩, ⟨by (with_reducible repeat (first | apply Kd.R_alloc | apply Kd.R_drewN | apply Kd.R_drew)); exact Kd.R_mono HO237.out (fun _ hk => hk.2)⟩, ⟨by repeat (first | (with_reducible first | exact HB.out | apply below_alloc | apply pw_below_drewN | apply below_drew1) | exact HB.out)⟩⟩
  case rest =>
    clear HC5
    try clear c1
    try clear p2
    try clear c8
    try clear c9
    obtain ⟨kq, x22_4, rfl, HA, HJ4, HO_5, HO_6, HB⟩ := hcut
    cases kq with
    | zero => exact absurd HA.out (by simp [hayloftlaw18_RecoverMissing.j0])
    | succ kj4 =>
      have H := HA.out
      clear HA
      simp only [hayloftlaw18_RecoverMissing.j0] at H
      by_cases c14 : x22_4 = true
      · subst c14
        have H1 : (some false) = some r := by rw [if_pos rfl] at H; exact H
        clear H
        have H := H1
        clear H1
        obtain rfl := Option.some.inj H
        go_wp2
        repeat (go_quiet (fail); try go_wp2)
        go_ret
        exact ⟨by first | rfl | (simp [errW_none, errW_some] <;> rfl) | (simp [*, errW_none, errW_some] <;> rfl), by repeat (first | (with_reducible first | exact HB.out | apply below_alloc | apply pw_below_drewN | apply below_drew1) | exact HB.out)⟩
      · replace c14 := Bool.eq_false_iff.mpr c14
        subst c14
        have H1 : (hayloftlaw18_RecoverMissing.l0 kj4 t232 t235 (t232.length : Int) 0) = some r := by rw [if_neg (show ¬ (false = true) by decide)] at H; exact H
        clear H
        have H := H1
        clear H1
        have H' := Aside0.mk H
        clear H
        obtain ⟨Ao15, co15, eo15⟩ := Kd.R_slice HO_5.out
        subst eo15
        go_wp2
        repeat (go_quiet (fail); try go_wp2)
        go_loopg [25] kj4 (fun kq v25 w' => ∃ (x25_2 : Int), v25 = .int .i64 x25_2 ∧ Aside0 (hayloftlaw18_RecoverMissing.l0 kq t232 t235 (t232.length : Int) x25_2 = some r) ∧ Aside0 (kq ≤ kj4) ∧ Aside0 (Kd.R k50 50 w' w.heap.size (fun k_ => some k_ ≠ (v236 : Value).ownBlock) (.slice Ao15 t232.length co15) t232) ∧ Aside0 (Kd.R k50 50 w' w.heap.size (fun k_ => some k_ ≠ ((.slice Ao15 t232.length co15) : Value).ownBlock) v236 t235) ∧ Aside0 (Below w.heap.size w w'))
        case atStart => exact ⟨(0), (by first | rfl | (simp; done) | (simp [*]; done)), H', ⟨Nat.le_refl _⟩, ⟨by (with_reducible repeat (first | apply Kd.R_alloc | apply Kd.R_drewN | apply Kd.R_drew)); exact HO_5.out⟩, ⟨by (with_reducible repeat (first | apply Kd.R_alloc | apply Kd.R_drewN | apply Kd.R_drew)); exact HO_6.out⟩, ⟨by repeat (first | (with_reducible first | exact HB.out | apply below_alloc | apply pw_below_drewN | apply below_drew1) | exact HB.out)⟩⟩
        case round =>
          clear H'
          try clear c1
          try clear p2
          try clear c8
          try clear c9
          try clear c14
          try clear p2
          obtain ⟨x25_2, rfl, HA, HK2, HO_5, HO_6, HB⟩ := hrel
          cases gk with
          | zero => exact absurd HA.out (by simp [hayloftlaw18_RecoverMissing.l0])
          | succ k2 =>
            have H := HA.out
            clear HA
            simp only [hayloftlaw18_RecoverMissing.l0] at H
            by_cases c16 : x25_2 < (t232.length : Int)
            · rw [if_pos c16] at H
              have c16b0 : decide (x25_2 < (t232.length : Int)) = true := decide_eq_true c16
              clear c16
              by_cases c17 : 0 ≤ x25_2
              · rw [if_pos c17] at H
                have c17b0 : decide (0 ≤ x25_2) = true := decide_eq_true c17
                clear c17
                by_cases c18 : x25_2 < (t232.length : Int)
                · rw [if_pos c18] at H
                  have c18b0 : decide (x25_2 < (t232.length : Int)) = true := decide_eq_true c18
                  clear c18
                  by_cases c19 : x25_2 < (t235.length : Int)
                  · rw [if_pos c19] at H
                    have c19b0 : decide (x25_2 < (t235.length : Int)) = true := decide_eq_true c19
                    clear c19
                    by_cases c20 : (!(((rd_T50 t232 x25_2).f0) == ((rd_T50 t235 x25_2).f0)) || (!(((rd_T50 t232 x25_2).f1) == ((rd_T50 t235 x25_2).f1)))) = true
                    · rw [if_pos c20] at H
                      have c20b0 : (!(((rd_T50 t232 x25_2).f0) == ((rd_T50 t235 x25_2).f0)) || (!(((rd_T50 t232 x25_2).f1) == ((rd_T50 t235 x25_2).f1)))) = true := c20
                      clear c20
                      obtain rfl := Option.some.inj H
                      have p239 : 0 ≤ (x25_2 : Int) := of_decide_eq_true (by first | (with_reducible assumption) | assumption)
                      have q239 : x25_2 < (t232.length : Int) := of_decide_eq_true (by first | (with_reducible assumption) | assumption)
                      obtain ⟨ad239, e239, hx239_0, hx239_1⟩ := at_T50 (Kd.R_reads' HO_5.out).2.2 x25_2 p239 q239
                      cases e239
                      replace p239 := eq_true p239
                      replace q239 := eq_true q239
                      obtain ⟨Ao21, co21, eo21⟩ := Kd.R_slice HO_6.out
                      subst eo21
                      have p240 : 0 ≤ (x25_2 : Int) := of_decide_eq_true (by first | (with_reducible assumption) | assumption)
                      have q240 : x25_2 < (t235.length : Int) := of_decide_eq_true (by first | (with_reducible assumption) | assumption)
                      obtain ⟨ad240, e240, hx240_0, hx240_1⟩ := at_T50 (Kd.R_reads' HO_6.out).2.2 x25_2 p240 q240
                      cases e240
                      replace p240 := eq_true p240
                      replace q240 := eq_true q240
                      go_wp2
                      repeat (go_quiet (fail); try go_wp2)
                      go_ret
                      exact ⟨by first | rfl | (simp [errW_none, errW_some] <;> rfl) | (simp [*, errW_none, errW_some] <;> rfl), by repeat (first | (with_reducible first | exact HB.out | apply below_alloc | apply pw_below_drewN | apply below_drew1) | exact HB.out)⟩
                    · rw [if_neg c20] at H
                      have c20b0 : (!(((rd_T50 t232 x25_2).f0) == ((rd_T50 t235 x25_2).f0)) || (!(((rd_T50 t232 x25_2).f1) == ((rd_T50 t235 x25_2).f1)))) = false := by simpa using c20
                      clear c20
                      have H' := Aside0.mk H
                      clear H
                      have p239 : 0 ≤ (x25_2 : Int) := of_decide_eq_true (by first | (with_reducible assumption) | assumption)
                      have q239 : x25_2 < (t232.length : Int) := of_decide_eq_true (by first | (with_reducible assumption) | assumption)
                      obtain ⟨ad239, e239, hx239_0, hx239_1⟩ := at_T50 (Kd.R_reads' HO_5.out).2.2 x25_2 p239 q239
                      cases e239
                      replace p239 := eq_true p239
                      replace q239 := eq_true q239
                      obtain ⟨Ao22, co22, eo22⟩ := Kd.R_slice HO_6.out
                      subst eo22
                      have p240 : 0 ≤ (x25_2 : Int) := of_decide_eq_true (by first | (with_reducible assumption) | assumption)
                      have q240 : x25_2 < (t235.length : Int) := of_decide_eq_true (by first | (with_reducible assumption) | assumption)
                      obtain ⟨ad240, e240, hx240_0, hx240_1⟩ := at_T50 (Kd.R_reads' HO_6.out).2.2 x25_2 p240 q240
                      cases e240
                      replace p240 := eq_true p240
                      replace q240 := eq_true q240
                      go_wp2
                      repeat (go_quiet (fail); try go_wp2)
                      go_roundg k2
                      case measure => have := HJ4.out; have := HK2.out; omega
                      case rel => exact ⟨(wrap64 (x25_2 + 1)), (by first | rfl | (simp; done) | (simp [*]; done)), H', ⟨by have := HJ4.out; have := HK2.out; omega⟩, ⟨by (with_reducible repeat (first | apply Kd.R_alloc | apply Kd.R_drewN | apply Kd.R_drew)); exact HO_5.out⟩, ⟨by (with_reducible repeat (first | apply Kd.R_alloc | apply Kd.R_drewN | apply Kd.R_drew)); exact HO_6.out⟩, ⟨by repeat (first | (with_reducible first | exact HB.out | apply below_alloc | apply pw_below_drewN | apply below_drew1) | exact HB.out)⟩⟩
                  · rw [if_neg c19] at H
                    exact absurd H (by simp)
                · rw [if_neg c18] at H
                  exact absurd H (by simp)
              · rw [if_neg c17] at H
                exact absurd H (by simp)
            · rw [if_neg c16] at H
              have c16b0 : decide (x25_2 < (t232.length : Int)) = false := decide_eq_false c16
              clear c16
              obtain rfl := Option.some.inj H
              go_wp2
              repeat (go_quiet (fail); try go_wp2)
              go_ret
              exact ⟨by first | rfl | (simp [errW_none, errW_some] <;> rfl) | (simp [*, errW_none, errW_some] <;> rfl), by repeat (first | (with_reducible first | exact HB.out | apply below_alloc | apply pw_below_drewN | apply below_drew1) | exact HB.out)⟩

end Go.Proofs.Ytfepfpcilmaojaa.QV
