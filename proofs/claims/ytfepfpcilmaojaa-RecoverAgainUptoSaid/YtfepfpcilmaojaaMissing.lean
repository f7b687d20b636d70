/- recover.Missing: a map by segments; which segments nothing is held of. -/
import Derived.Test.YtfepfpcilmaojaaKeyed
import Derived.Test.YtfepfpcilmaojaaChanges
namespace Go.Proofs.Ytfepfpcilmaojaa.QV
open Go.RowKit Go.Maps Go.Proofs.YtfepfpcilmaojaaW.PrintWords Go.Proofs.Ytfepfpcilmaojaa.SeqW Go.Proofs.Ytfepfpcilmaojaa.Mp
set_option linter.unusedVariables false
set_option linter.unusedSimpArgs false
set_option maxRecDepth 100000
abbrev tSg : Nat := 50
abbrev tHeld : Nat := 66
abbrev tMapS : Nat := 63
theorem rowSg : (tSg : TypeId) < Try.prog.types.size := of_decide_eq_true (by kernel_rfl)
theorem wideSg : (match Try.prog.underlying tSg with | some (.array _ _) | some (.struct _) => true | _ => false) = true := by rw [show Try.prog.underlying tSg = _ from Try.underlying50]
theorem lawSg : Keyed Try.prog tSg := Keyed.of_law (deep_law_laid laidOut (m := 2) (by omega) rowSg (by kernel_rfl) wideSg)
abbrev Sg := S50
def Sg.val (k : Sg) : Value := .agg #[.int .i64 k.f0, .int .i64 k.f1]
def Sok (k : Sg) : Prop := (Lit.int .i64 k.f0).wf = true ∧ (Lit.int .i64 k.f1).wf = true
theorem sg_keyType : Try.prog.keyType tSg = true := by kernel_rfl
theorem sg_cells : Try.prog.cellsOf tSg = 2 := by kernel_rfl
theorem sg_c0 : Try.prog.cellsOf 3 = 1 := by kernel_rfl
theorem sg_size : ∃ n, Try.prog.types.size = n + 2 := ⟨Try.prog.types.size - 2, by have := rowSg; unfold tSg at this; omega⟩
theorem keyOf_sg (k : Sg) (h : Sok k) : ∃ l, keyOf Try.prog tSg k.val = some l := by
  obtain ⟨n, hn⟩ := sg_size
  have hu : Try.prog.underlying tSg = _ := Try.underlying50
  have hf : (k.val).formed Try.prog tSg = true := by simp [Value.formed, Sg.val, hu, sg_cells]
  have hl : Try.prog.keyLits (Try.prog.types.size + 1) tSg k.val.cells.toList = some [.int .i64 k.f0, .int .i64 k.f1] := by
    rw [hn]
    simp [Program.keyLits, hu, Sg.val, Value.cells, sg_cells, sg_c0, Try.underlying3, h.1, h.2]
  exact ⟨_, by simp only [keyOf, hu, sg_keyType, hf, hl]; rfl⟩
theorem keyOf_sg_inv {v : Value} {l : Lit} (h : keyOf Try.prog tSg v = some l) : ∃ k : Sg, Sok k ∧ v = k.val := by
  obtain ⟨n, hn⟩ := sg_size
  have hu : Try.prog.underlying tSg = _ := Try.underlying50
  simp only [keyOf, hu, sg_keyType, Bool.true_and] at h
  split at h
  · rename_i hf
    obtain ⟨ls, hls, _⟩ := Option.map_eq_some_iff.1 h
    cases v with
    | agg cs =>
      simp [Value.formed, hu, sg_cells] at hf
      obtain ⟨cs⟩ := cs
      match cs, hf with
      | [a, b], _ =>
        rw [hn] at hls
        unfold Program.keyLits at hls
        rw [hu] at hls
        simp [Value.cells, sg_cells, sg_c0] at hls
        simp only [Option.bind_eq_some_iff] at hls
        obtain ⟨la, hla, hr⟩ := hls
        simp only [Function.comp, Option.map_eq_some_iff, Option.bind_eq_some_iff] at hr
        obtain ⟨_, ⟨_, ⟨lb, hlb, _⟩, _⟩, _⟩ := hr
        obtain ⟨x, hx, rfl⟩ := keyLits_int' Try.underlying3 hla
        obtain ⟨y, hy, rfl⟩ := keyLits_int' Try.underlying3 hlb
        obtain rfl : a = _ := by simpa using hx
        obtain rfl : b = _ := by simpa using hy
        simp [Program.keyLits, Try.underlying3] at hla
        simp [Program.keyLits, Try.underlying3] at hlb
        exact ⟨⟨x, y⟩, ⟨hla, hlb⟩, rfl⟩
    | _ => simp [Value.formed, hu] at hf
  · cases h
theorem Sg.ext' {a b : Sg} (h0 : a.f0 = b.f0) (h1 : a.f1 = b.f1) : a = b := by
  cases a; cases b; simp only at h0 h1; rw [h0, h1]
instance : DecidableEq Sg := fun a b => if h : a.f0 = b.f0 ∧ a.f1 = b.f1 then isTrue (Sg.ext' h.1 h.2) else isFalse (fun e => h (by rw [e]; exact ⟨rfl, rfl⟩))
theorem Sg.val_inj (a b : Sg) (h : a.val = b.val) : a = b := by
  simp only [Sg.val] at h
  injection h with h
  simp at h
  exact Sg.ext' h.1 h.2
def sgK : Mp.KeyTy Try.prog tSg Sg := ⟨Sg.val, Sok, lawSg, keyOf_sg, fun v l h => keyOf_sg_inv h, Sg.val_inj⟩
theorem sgK_val (k : Sg) : sgK.val k = .agg #[.int .i64 k.f0, .int .i64 k.f1] := rfl
abbrev Hd := S66
abbrev kHd : Kd Hd := k66
abbrev kSg : Kd Sg := k50
theorem zeroHeld (w : World) : (zeroValue tHeld).run Try.prog w = .ok (.agg #[.int .i64 0, .int .i64 0, .slice none 0 0]) w := by kernel_rfl
/-- Is something held of a segment? -/
def heldB (l : List Hd) (k : Sg) : Bool := l.any (fun h => decide (h.f0 = k))
/-- The map's keys are the segments that something is held of. -/
def hdV (y : Hd) (A : Option Addr) (c : Nat) : Value := .agg #[.int .i64 y.f0.f0, .int .i64 y.f0.f1, .slice A y.f1.length c]
def HIs (f : Sg → Option Value) (l : List Hd) : Prop := ∀ k, Sok k → (f k).isSome = heldB l k ∧ ∀ u, f k = some u → ∃ y A c, u = hdV y A c
theorem HIs.upd_ {f : Sg → Option Value} {l : List Hd} (h : HIs f l) (x : Hd) (A : Option Addr) (c : Nat) : HIs (upd f x.f0 (some (hdV x A c))) (l ++ [x]) := fun k hk => by
  unfold upd
  by_cases e : k = x.f0
  · subst e; exact ⟨by simp [heldB], fun u hu => by simp at hu; exact ⟨x, A, c, hu.symm⟩⟩
  · have := h k hk
    rw [if_neg e]
    refine ⟨?_, this.2⟩
    rw [this.1]
    simp [heldB, Ne.symm e]
theorem HIs.same {f : Sg → Option Value} {l : List Hd} (h : HIs f l) (x : Hd) (hx : heldB l x.f0 = true) : HIs f (l ++ [x]) := fun k hk => by
  have := h k hk
  refine ⟨?_, this.2⟩
  rw [this.1]
  unfold heldB at hx ⊢
  by_cases e : k = x.f0
  · subst e; simp only [List.any_append, hx]; rfl
  · simp [Ne.symm e]
theorem held_at {w : World} {A : Option Addr} {l : List Hd} (h : kHd.C w A l.length l) (i : Nat) (hi : i < l.length) :
    ∃ ad A2 c2, A = some ad ∧ w.cell? (ad.add (i * 3)) = some (.int .i64 (l.getD i z66).f0.f0) ∧ w.cell? ⟨(ad.add (i * 3)).block, (ad.add (i * 3)).off + 1, none⟩ = some (.int .i64 (l.getD i z66).f0.f1) ∧ w.cell? ⟨(ad.add (i * 3)).block, (ad.add (i * 3)).off + 2, none⟩ = some (.slice A2 (l.getD i z66).f1.length c2) := by
  obtain ⟨ad, A2, c2, e, h0, h1, h2, _⟩ := at_T66 h (i : Int) (by omega) (by omega)
  rw [Int.toNat_natCast] at h0 h1 h2
  exact ⟨ad, A2, c2, e, h0, h1, h2⟩
theorem seg_at {w : World} {A : Option Addr} {l : List Sg} (h : kSg.C w A l.length l) (i : Nat) (hi : i < l.length) :
    ∃ ad, A = some ad ∧ w.cell? (ad.add (i * 2)) = some (.int .i64 (l.getD i z50).f0) ∧ w.cell? ⟨(ad.add (i * 2)).block, (ad.add (i * 2)).off + 1, none⟩ = some (.int .i64 (l.getD i z50).f1) := by
  obtain ⟨ad, e, h0, h1⟩ := at_T50 h (i : Int) (by omega) (by omega)
  rw [Int.toNat_natCast] at h0 h1
  exact ⟨ad, e, h0, h1⟩
theorem at_any (x : Hd) (A : Option Addr) (c : Nat) (w : World) :
    Calls Try.prog 36 #[.agg #[.int .i64 x.f0.f0, .int .i64 x.f0.f1, .slice A x.f1.length c]] w fun e w' => e = .returned (.agg #[.int .i64 x.f0.f0, .int .i64 x.f0.f1]) ∧ Below w.heap.size w w' := by
  go_enter Try.func36, Try.ntmps36
  go_wp2
  go_returns
  exact ⟨rfl, ((Below.refl _ _).alloc (Nat.le_refl _) _).alloc (by simp) _⟩

set_option maxHeartbeats 4000000 in
theorem keyedS_any (A : Option Addr) (l : List Hd) (c : Nat) (w : World) (hr : kHd.C w A l.length l) (hc : l.length ≤ c) (hok : ∀ x ∈ l, Sok x.f0) (hb : l.length < 9223372036854775807) :
    Calls Try.prog 35 #[.slice A l.length c, .func (.func 36) #[] #[]] w fun e w' => e = .returned (.map (some w.heap.size)) ∧ (∃ f, MapIs sgK w' w.heap.size l.length f ∧ HIs f l) ∧ Below w.heap.size w w' := by
  have hmm := @run_makeMap Try.prog
  go_enter Try.func35, Try.ntmps35
  go_wp2
  go_loopw [13] (fun i wr => ∃ k : Nat, k ≤ l.length ∧ i = .int .i64 k ∧ (∃ f, MapIs sgK wr w.heap.size k f ∧ HIs f (l.take k)) ∧ Below w.heap.size w wr)
    (fun i _ => l.length - (intOf i).toNat)
  case atStart => exact ⟨0, Nat.zero_le _, rfl, ⟨_, MapIs.made w, fun k _ => ⟨rfl, fun u hu => by cases hu⟩⟩, (Below.refl _ _).alloc (Nat.le_refl _) _⟩
  case round =>
    obtain ⟨k, hk, rfl, hM, hB⟩ := hrel
    by_cases hlt : k < l.length
    · obtain ⟨ad, Ax, cx, e, hc0, hc1, hc2⟩ := held_at hr k hlt
      replace hc0 := pw_cell_below hB hc0
      replace hc1 := pw_cell_below hB hc1
      replace hc2 := pw_cell_below hB hc2
      subst e
      have hx0 := hok _ (getD_mem z66 hlt)
      have hts := take_snoc' z66 l k hlt
      generalize l.getD k z66 = x at *
      obtain ⟨f, hMf, hF⟩ := hM
      have wk : wrap64 ((k : Int) + 1) = k + 1 := by unfold wrap64; omega
      cases h1 : f x.f0 with
      | none =>
        go_wp2_with (first
          | (go_at_call 36; refine (at_any x Ax cx _).mono ?_; rintro e w5 ⟨rfl, hB5⟩; have hBw5 := btr' (below_alloc (Below.refl wr.heap.size wr) (.cells #[.int .i64 x.f0.f0, .int .i64 x.f0.f1, .slice Ax x.f1.length cx] tHeld)) hB5; have hMf5 := hMf.below hBw5)
          | (at_lookup; refine wpList_look_map _ rfl _ _ tMapS rfl tHeld Try.underlying63 rfl hMf5 (zeroHeld _) x.f0 hx0 rfl ?_; simp only [h1, Option.getD_none, Option.isSome_none])
          | go_in)
        refine wp_at (S := fun W => Below wr.heap.size wr W ∧ W.heap[wr.heap.size]? = some (.cells #[.int .i64 x.f0.f0, .int .i64 x.f0.f1, .slice Ax x.f1.length cx] tHeld (0, 0))) ⟨below_alloc hBw5 _, blk_below (blk_new wr _) (below_alloc hB5 _)⟩ ?_
        rintro W0 ⟨hB0, hb7⟩
        have S0 : ∀ V, Below W0.heap.size W0 V → V.cell? ⟨wr.heap.size, 0, none⟩ = some (.int .i64 x.f0.f0) ∧ V.cell? ⟨wr.heap.size, 1, none⟩ = some (.int .i64 x.f0.f1) ∧ V.cell? ⟨wr.heap.size, 2, none⟩ = some (.slice Ax x.f1.length cx) :=
          fun V hV => ⟨blk_cell (blk_below hb7 hV) 0, blk_cell (blk_below hb7 hV) 1, blk_cell (blk_below hb7 hV) 2⟩
        refine (wpIn_wide (n := 0)).1 ?_
        refine wpIn_region_R (l := 0) 5 (S := fun V => V.cell? ⟨wr.heap.size, 0, none⟩ = some (.int .i64 x.f0.f0) ∧ V.cell? ⟨wr.heap.size, 1, none⟩ = some (.int .i64 x.f0.f1) ∧ V.cell? ⟨wr.heap.size, 2, none⟩ = some (.slice Ax x.f1.length cx)) (by kernel_rfl) (S0 _ (below_drew (Below.refl _ _))) (fun hS0 => ?_)
        refine wpAnyR_take (i := 0) (oi := ⟨some 27, _, _, _, _, _⟩) (v := ?_) (by kernel_rfl) (by kernel_rfl) rfl (by kernel_rfl) (by kernel_rfl) (by kernel_rfl) (fun _ _ _ h => h) (Or.inl ⟨by rfl, ?_⟩) (by assumption) ?_
        rotate_left
        · intro w hSw; (try dsimp only at hSw); (try go_split_ands); go_simp; (try (with_reducible rfl))
        (try simp only [Act.put, List.setIfInBounds_toArray, List.set_cons_zero, List.set_cons_succ])
        refine wpAnyR_take (i := 1) (oi := ⟨some 28, _, _, _, _, _⟩) (v := ?_) (by kernel_rfl) (by kernel_rfl) rfl (by kernel_rfl) (by kernel_rfl) (by kernel_rfl) (fun _ _ _ h => h) (Or.inl ⟨by rfl, ?_⟩) (by assumption) ?_
        rotate_left
        · intro w hSw; (try dsimp only at hSw); (try go_split_ands); go_simp; (try (with_reducible rfl))
        (try simp only [Act.put, List.setIfInBounds_toArray, List.set_cons_zero, List.set_cons_succ])
        refine wpAnyR_take (i := 2) (oi := ⟨some 29, _, _, _, _, _⟩) (v := ?_) (by kernel_rfl) (by kernel_rfl) rfl (by kernel_rfl) (by kernel_rfl) (by kernel_rfl) (fun _ _ _ h => h) (Or.inl ⟨by rfl, ?_⟩) (by assumption) ?_
        rotate_left
        · intro w hSw; (try dsimp only at hSw); (try go_split_ands); go_simp; (try (with_reducible rfl))
        (try simp only [Act.put, List.setIfInBounds_toArray, List.set_cons_zero, List.set_cons_succ])
        refine wpAnyR_take (i := 4) (oi := ⟨some 31, _, _, _, _, _⟩) (v := ?_) (by kernel_rfl) (by kernel_rfl) rfl (by kernel_rfl) (by kernel_rfl) (by kernel_rfl) (fun _ _ _ h => h) (Or.inl ⟨by rfl, ?_⟩) (by assumption) ?_
        rotate_left
        · intro w hSw; (try dsimp only at hSw); (try go_split_ands); go_simp; (try (with_reducible rfl))
        (try simp only [Act.put, List.setIfInBounds_toArray, List.set_cons_zero, List.set_cons_succ])
        refine wpAnyR_one (i := 3) (o := ⟨some 30, _, _, _, _, _⟩) (by kernel_rfl) (by kernel_rfl) rfl (fun K hK => ?_)
        go_simp
        refine (at_any x Ax cx _).mono ?_
        rintro e W1 ⟨rfl, hB1⟩
        have hB01 := btr' (below_drew (Below.refl _ W0)) hB1
        (try dsimp only)
        refine hK.out _ _ (.inr (S0 _ hB01)) ?_
        clear hK K
        (try simp only [Act.put, List.setIfInBounds_toArray, List.set_cons_zero, List.set_cons_succ])
        refine wpAnyR_one (i := 5) (o := ⟨none, _, _, _, _, _⟩) (by kernel_rfl) (by kernel_rfl) rfl (fun K hK => ?_)
        obtain ⟨W2, hr2, hM2, hT2⟩ := ((hMf.below hB0).below hB01).put_ (tm := tMapS) (e := tHeld) Try.underlying63 (by unfold maxLen; omega) hx0 (.agg #[.int .i64 x.f0.f0, .int .i64 x.f0.f1, .slice Ax x.f1.length cx])
        have hr2' : (Instr.mapUpdate tMapS (.map (some w.heap.size)) (.agg #[.int .i64 x.f0.f0, .int .i64 x.f0.f1]) (.agg #[.int .i64 x.f0.f0, .int .i64 x.f0.f1, .slice Ax x.f1.length cx])).run Try.prog W1 = .ok () W2 := hr2
        go_simp
        refine hK.out _ _ (.inl rfl) ?_
        clear hK K
        (try simp only [Act.put, List.setIfInBounds_toArray, List.set_cons_zero, List.set_cons_succ])
        refine wpAnyR_done (by kernel_rfl) ?_ _
        have hB02 := (hB.trans (hB0.mono hB.size)).trans (hB01.mono (Nat.le_trans hB.size hB0.size))
        have hbw := hMf.lt
        go_wp2
        go_roundw
        case rel =>
          refine ⟨k + 1, by omega, by go_num, ⟨_, hM2, ?_⟩, hB02.grown hT2.grown hB02.size (fun k e => by cases e; exact Nat.le_refl _)⟩
          rw [← hts]
          exact hF.upd_ x Ax cx
        case measure => simp [intOf]; omega
      | some u =>
        obtain ⟨y, Ay, cy, rfl⟩ := (hF x.f0 hx0).2 u h1
        have hx1 : heldB (l.take k) x.f0 = true := by rw [← (hF x.f0 hx0).1, h1]; rfl
        unfold hdV at h1
        go_wp2_with (first
          | (go_at_call 36; refine (at_any x Ax cx _).mono ?_; rintro e w5 ⟨rfl, hB5⟩; have hBw5 := btr' (below_alloc (Below.refl wr.heap.size wr) (.cells #[.int .i64 x.f0.f0, .int .i64 x.f0.f1, .slice Ax x.f1.length cx] tHeld)) hB5; have hMf5 := hMf.below hBw5)
          | (at_lookup; refine wpList_look_map _ rfl _ _ tMapS rfl tHeld Try.underlying63 rfl hMf5 (zeroHeld _) x.f0 hx0 rfl ?_; simp only [h1, Option.getD_some, Option.isSome_some])
          | go_in)
        go_roundw
        case rel =>
          refine ⟨k + 1, by omega, by go_num, ?_, hB.trans ((below_alloc hBw5 _).mono hB.size)⟩
          rw [← hts]
          exact ⟨f, (hMf5.mono (Nat.le_succ _)).below (below_alloc (Below.refl _ _) _), hF.same x hx1⟩
        case measure => simp [intOf]; omega
    · obtain rfl : k = l.length := by omega
      rw [List.take_length] at hM
      go_wp2
      go_ret
      obtain ⟨f, h1, h2⟩ := hM
      exact ⟨rfl, ⟨f, h1, h2⟩, hB⟩
theorem infoSg : (Try.prog.info? tSg).map (fun i => (i.zero, i.size, i.bytes)) = some (some (.agg #[.int .i64 0, .int .i64 0]), 2, 16) := by kernel_rfl
theorem slice_alloc2 (w : World) (o o' : Obj) (n c : Nat) : Value.slice (some ⟨w.heap.size + 1 + 1, 0, none⟩) n c = Value.slice (some ⟨((w.alloc o).alloc o').heap.size, 0, none⟩) n c := by rw [World.size_alloc, World.size_alloc]
set_option maxHeartbeats 4000000 in
theorem missing_any (A0 : Option Addr) (c0 : Nat) (l : List Sg) (A1 : Option Addr) (c1 : Nat) (m : List Hd) (w : World) (hr0 : kSg.C w A0 l.length l) (hc0 : l.length ≤ c0) (hr1 : kHd.C w A1 m.length m) (hc1 : m.length ≤ c1)
    (hok0 : ∀ x ∈ l, Sok x) (hok1 : ∀ x ∈ m, Sok x.f0) (hb0 : l.length * 16 ≤ 140737488355328) (hb1 : m.length < 9223372036854775807) :
    Calls Try.prog 23 #[.slice A0 l.length c0, .slice A1 m.length c1] w fun e w' => ∃ v, e = .returned v ∧ kSg.R tSg w' w.heap.size (fun _ => True) v (l.filter (fun k => !heldB m k)) ∧ Below w.heap.size w w' := by
  go_enter Try.func23, Try.ntmps23
  go_wp2_with (first
    | (go_at_call 35; refine (keyedS_any A1 m c1 w hr1 hc1 hok1 hb1).mono ?_; rintro e w1 ⟨rfl, ⟨f, hM1, hF1⟩, hB1⟩)
    | go_in)
  have hs1 : w.heap.size < w1.heap.size := hM1.lt
  go_loopw [6, 15] (fun v i wr => ∃ k : Nat, k ≤ l.length ∧ i = .int .i64 k ∧ kSg.R tSg wr w1.heap.size (fun _ => True) v ((l.take k).filter (fun k => !heldB m k)) ∧ Below w1.heap.size w1 wr)
    (fun _ i _ => l.length - (intOf i).toNat)
  case atStart => exact ⟨0, Nat.zero_le _, rfl, Kd.R_nil _ _ _ _ _, Below.refl _ _⟩
  case round =>
    obtain ⟨k, hk, rfl, hv, hB⟩ := hrel
    have hBw := btr' hB1 hB
    by_cases hlt : k < l.length
    · obtain ⟨ad, e, q0, q1⟩ := seg_at hr0 k hlt
      replace q0 := pw_cell_below hBw q0
      replace q1 := pw_cell_below hBw q1
      subst e
      have hx0 := hok0 _ (getD_mem z50 hlt)
      have hts := take_snoc' z50 l k hlt
      generalize l.getD k z50 = x at *
      have hMr := hM1.below hB
      obtain ⟨hh1, hh2⟩ := hF1 x hx0
      cases h1 : f x with
      | none =>
        have hn : heldB m x = false := by rw [← hh1, h1]; rfl
        have hfl : (l.take (k + 1)).filter (fun k => !heldB m k) = (l.take k).filter (fun k => !heldB m k) ++ [x] := by rw [← hts, List.filter_append]; simp [hn]
        have hbd : (((l.take k).filter (fun k => !heldB m k)).length + 1) * 16 ≤ 140737488355328 := by
          have h2 : ((l.take k).filter (fun k => !heldB m k)).length ≤ (l.take k).length := List.length_filter_le _ _
          rw [List.length_take] at h2
          have h3 : ((l.take k).filter (fun k => !heldB m k)).length + 1 ≤ l.length := by omega
          exact Nat.le_trans (Nat.mul_le_mul_right _ h3) hb0
        have hBa : Below w1.heap.size w1 ((wr.alloc (.cells #[.int .i64 x.f0, .int .i64 x.f1] tSg)).alloc (.cells #[.int .i64 0, .int .i64 0, .slice none 0 0] tHeld)) := below_alloc (below_alloc hB _) _
        go_wp2_with (first
          | (at_lookup; refine wpList_look_map _ rfl _ _ tMapS rfl tHeld Try.underlying63 rfl (hMr.below (by repeat (first | exact Below.refl _ _ | apply below_alloc))) (zeroHeld _) x hx0 rfl ?_; simp only [h1, Option.getD_none, Option.isSome_none])
          | (at_builtin; refine Kd.R_append kSg (w0 := w1) w1.heap.size rfl (.tmp 27) (.tmp 29) 46 tSg _ 16 rfl Try.underlying46 infoSg rfl (by decide) (by decide) u6 ((l.take k).filter (fun k => !heldB m k)) x [.int .i64 x.f0, .int .i64 x.f1] (fun _ => True) (fun _ => False) rfl (slice_alloc2 _ _ _ _ _) (k50_mkM _ _ _ _) (fun _ h => h.elim) (fun _ _ => trivial) (Kd.R_alloc (Kd.R_alloc hv _) _) hBa hBa.size hbd ?_; intro v1 w5 hv1 hB5 hg5 hat5; clear hg5 hat5)
          | go_in)
        go_roundw
        case rel => exact ⟨k + 1, by omega, by go_num, by rw [hfl]; exact hv1, hB5⟩
        case measure => simp [intOf]; omega
      | some u =>
        obtain ⟨y, Ay, cy, rfl⟩ := hh2 u h1
        have hn : heldB m x = true := by rw [← hh1, h1]; rfl
        have hfl : (l.take (k + 1)).filter (fun k => !heldB m k) = (l.take k).filter (fun k => !heldB m k) := by rw [← hts, List.filter_append]; simp [hn]
        unfold hdV at h1
        go_wp2_with (first
          | (at_lookup; refine wpList_look_map _ rfl _ _ tMapS rfl tHeld Try.underlying63 rfl (hMr.below (by repeat (first | exact Below.refl _ _ | apply below_alloc))) (zeroHeld _) x hx0 rfl ?_; simp only [h1, Option.getD_some, Option.isSome_some])
          | go_in)
        go_roundw
        case rel => exact ⟨k + 1, by omega, by go_num, by rw [hfl]; exact Kd.R_alloc (Kd.R_alloc hv _) _, below_alloc (below_alloc hB _) _⟩
        case measure => simp [intOf]; omega
    · obtain rfl : k = l.length := by omega
      rw [List.take_length] at hv
      go_wp2
      go_ret
      exact ⟨_, rfl, Kd.R_lower hv (by omega), hBw⟩
end Go.Proofs.Ytfepfpcilmaojaa.QV
/- What a map of versions told is, as a list: by sorted names; and that there is but one such list. -/
namespace Go.Proofs.Ytfepfpcilmaojaa.QV
open Go.RowKit Go.Proofs.YtfepfpcilmaojaaW.PrintWords Go.Proofs.Ytfepfpcilmaojaa.Mp
set_option linter.unusedVariables false
set_option linter.unusedSimpArgs false
def insN (k : Nm) : List Nm → List Nm
  | [] => [k]
  | a :: l => if cmpNm k a < 0 then k :: a :: l else if k = a then a :: l else a :: insN k l
/-- Names, each once, rising. -/
def nmsL (l : List Nm) : List Nm := l.foldr insN []
theorem insN_mem (k x : Nm) (l : List Nm) : x ∈ insN k l ↔ x = k ∨ x ∈ l := by
  induction l with
  | nil => simp [insN]
  | cons a l ih =>
    unfold insN
    split
    · simp
    · split
      · rename_i h; subst h; simp
      · simp only [List.mem_cons, ih]
        constructor
        · rintro (h | h | h)
          · exact .inr (.inl h)
          · exact .inl h
          · exact .inr (.inr h)
        · rintro (h | h | h)
          · exact .inr (.inl h)
          · exact .inl h
          · exact .inr (.inr h)
theorem insN_len (k : Nm) (l : List Nm) : (insN k l).length ≤ l.length + 1 := by
  induction l with
  | nil => simp [insN]
  | cons a l ih =>
    unfold insN
    split
    · simp
    · split
      · simp
      · simp only [List.length_cons]; omega
theorem insN_sorted (k : Nm) (l : List Nm) (h : l.Pairwise (fun a b => cmpNm a b < 0)) : (insN k l).Pairwise (fun a b => cmpNm a b < 0) := by
  induction l with
  | nil => simp [insN]
  | cons a l ih =>
    obtain ⟨h1, h2⟩ := List.pairwise_cons.1 h
    unfold insN
    split
    · rename_i hk
      refine List.pairwise_cons.2 ⟨fun b hb => ?_, h⟩
      rcases List.mem_cons.1 hb with rfl | hb
      · exact hk
      · have := h1 b hb
        rw [cmpNm_neg] at *
        omega
    · split
      · exact h
      · rename_i hk hne
        refine List.pairwise_cons.2 ⟨fun b hb => ?_, ih h2⟩
        rcases (insN_mem k b l).1 hb with rfl | hb
        · have hne' : ¬ (b.f0 = a.f0 ∧ b.f1 = a.f1) := fun h => hne (Nm.ext' h.1 h.2)
          rw [cmpNm_neg] at *
          omega
        · exact h1 b hb
theorem nmsL_mem (x : Nm) (l : List Nm) : x ∈ nmsL l ↔ x ∈ l := by
  induction l with
  | nil => simp [nmsL]
  | cons a l ih =>
    show x ∈ insN a (nmsL l) ↔ _
    rw [insN_mem, ih, List.mem_cons]
theorem nmsL_len (l : List Nm) : (nmsL l).length ≤ l.length := by
  induction l with
  | nil => simp [nmsL]
  | cons a l ih =>
    show (insN a (nmsL l)).length ≤ _
    have := insN_len a (nmsL l)
    simp only [List.length_cons]; omega
theorem nmsL_sorted (l : List Nm) : (nmsL l).Pairwise (fun a b => cmpNm a b < 0) := by
  induction l with
  | nil => simp [nmsL]
  | cons a l ih => exact insN_sorted a _ ih
/-- The map told. -/
def toldL (F : Nm → Option Ver) (ks : List Nm) : List Ver := (nmsL ks).filterMap F
theorem toldL_is (F : Nm → Option Ver) (ks : List Nm) (hFk : ∀ k x, F k = some x → x.f0 = k) (hok : ∀ k ∈ ks, Nok k) (hks : ∀ k, (F k).isSome = true → k ∈ ks) : IsTold F (toldL F ks) := by
  refine ⟨?_, ?_, ?_⟩
  · unfold toldL
    rw [List.pairwise_filterMap]
    refine (nmsL_sorted ks).imp ?_
    intro a b h x hx y hy
    rw [hFk a x hx, hFk b y hy]; exact h
  · intro x hx
    obtain ⟨k, hk, hx⟩ := List.mem_filterMap.1 hx
    have := hFk k x hx
    subst this
    exact ⟨hok _ ((nmsL_mem _ _).1 hk), hx⟩
  · intro k hk hs
    obtain ⟨x, hx⟩ := Option.isSome_iff_exists.1 hs
    exact ⟨x, List.mem_filterMap.2 ⟨k, (nmsL_mem _ _).2 (hks k hs), hx⟩, hFk k x hx⟩
theorem sorted_eq {α : Type} {r : α → α → Prop} (irr : ∀ a b, r a b → ¬ r b a) : ∀ (L M : List α), L.Pairwise r → M.Pairwise r → (∀ x, x ∈ L ↔ x ∈ M) → L = M
  | [], [], _, _, _ => rfl
  | [], b :: M, _, _, h => absurd ((h b).2 (by simp)) (by simp)
  | a :: L, [], _, _, h => absurd ((h a).1 (by simp)) (by simp)
  | a :: L, b :: M, h1, h2, h => by
    obtain ⟨p1, q1⟩ := List.pairwise_cons.1 h1
    obtain ⟨p2, q2⟩ := List.pairwise_cons.1 h2
    have e : a = b := by
      rcases List.mem_cons.1 ((h a).1 (by simp)) with e | ha
      · exact e
      · rcases List.mem_cons.1 ((h b).2 (by simp)) with e | hb
        · exact e.symm
        · exact absurd (p2 a ha) (irr _ _ (p1 b hb))
    subst e
    congr 1
    refine sorted_eq irr L M q1 q2 fun x => ?_
    have hx := h x
    rw [List.mem_cons, List.mem_cons] at hx
    constructor
    · intro hl
      rcases hx.1 (.inr hl) with e | hm
      · subst e; exact absurd (p1 x hl) (irr _ _ (p1 x hl))
      · exact hm
    · intro hm
      rcases hx.2 (.inr hm) with e | hl
      · subst e; exact absurd (p2 x hm) (irr _ _ (p2 x hm))
      · exact hl
theorem told_eq {F : Nm → Option Ver} {L M : List Ver} (h : IsTold F L) (k : IsTold F M) : L = M := by
  refine sorted_eq (r := fun a b => cmpNm a.f0 b.f0 < 0) (fun a b h => by rw [cmpNm_neg] at *; omega) L M h.1 k.1 fun x => ?_
  have one : ∀ {L M : List Ver}, IsTold F L → IsTold F M → x ∈ L → x ∈ M := fun {L M} h k hx => by
    obtain ⟨h1, h2⟩ := h.2.1 x hx
    obtain ⟨y, hy, e⟩ := k.2.2 x.f0 h1 (by rw [h2]; rfl)
    have := (k.2.1 y hy).2
    rw [e, h2] at this
    cases this
    exact hy
  exact ⟨one h k, one k h⟩
def nokB (k : Nm) : Bool := (Lit.int .u64 k.f0).wf && (Lit.int .u32 k.f1).wf
theorem nokB_iff (k : Nm) : nokB k = true ↔ Nok k := by unfold nokB Nok; rw [Bool.and_eq_true]
/-- What is asked of versions. -/
def okV (l : List Ver) : Bool := l.all (fun x => nokB x.f0 && decide (x.f1.length * 40 ≤ 140737488355328)) && decide (l.length * 48 ≤ 140737488355328)
theorem okV_iff (l : List Ver) : okV l = true ↔ (∀ x ∈ l, Nok x.f0) ∧ (∀ x ∈ l, x.f1.length * 40 ≤ 140737488355328) ∧ l.length * 48 ≤ 140737488355328 := by
  unfold okV
  rw [Bool.and_eq_true, List.all_eq_true, decide_eq_true_iff]
  simp only [Bool.and_eq_true, decide_eq_true_iff, nokB_iff]
  exact ⟨fun h => ⟨fun x hx => (h.1 x hx).1, fun x hx => (h.1 x hx).2, h.2⟩, fun h => ⟨fun x hx => ⟨h.1 x hx, h.2.1 x hx⟩, h.2.2⟩⟩
theorem uptoF_f0 (l : List Ver) (ep : Int) (k : Nm) (x : Ver) (h : uptoF l ep k = some x) : x.f0 = k := by
  unfold uptoF at h
  split at h
  · cases h
  · obtain ⟨y, hy, rfl⟩ := Option.map_eq_some_iff.1 h
    rw [asOf_f0]; exact firstOf_f0 l k y hy
theorem firstOf_names (l : List Ver) (k : Nm) (h : (firstOf l k).isSome = true) : k ∈ l.map (·.f0) := by
  obtain ⟨x, hx⟩ := Option.isSome_iff_exists.1 h
  exact List.mem_map.2 ⟨x, firstOf_mem l k x hx, firstOf_f0 l k x hx⟩
theorem uptoF_names (l : List Ver) (ep : Int) (k : Nm) (h : (uptoF l ep k).isSome = true) : k ∈ l.map (·.f0) := by
  unfold uptoF at h
  split at h
  · cases h
  · exact firstOf_names l k (by simpa using h)
theorem mergedF_names (l m : List Ver) (k : Nm) (h : (mergedF l m k).isSome = true) : k ∈ l.map (·.f0) ++ m.map (·.f0) := by
  rw [List.mem_append]
  cases h1 : firstOf l k with
  | some x => exact .inl (firstOf_names l k (by rw [h1]; rfl))
  | none =>
    refine .inr (firstOf_names m k ?_)
    unfold mergedF at h
    rw [h1] at h
    cases h2 : firstOf m k with
    | none => rw [h2] at h; cases h
    | some y => rfl
def uptoL (l : List Ver) (ep : Int) : List Ver := toldL (uptoF l ep) (l.map (·.f0))
def changesL (l : List Ver) (since ep : Int) : List Ver := (uptoL l ep).filter (fun x => !oldP since x)
def mergedL (l m : List Ver) : List Ver := toldL (mergedF l m) (l.map (·.f0) ++ m.map (·.f0))
theorem uptoL_is (l : List Ver) (ep : Int) (h : ∀ x ∈ l, Nok x.f0) : IsTold (uptoF l ep) (uptoL l ep) :=
  toldL_is _ _ (uptoF_f0 l ep) (fun k hk => by obtain ⟨x, hx, rfl⟩ := List.mem_map.1 hk; exact h x hx) (uptoF_names l ep)
theorem mergedL_is (l m : List Ver) (h : ∀ x ∈ l, Nok x.f0) (h' : ∀ x ∈ m, Nok x.f0) : IsTold (mergedF l m) (mergedL l m) :=
  toldL_is _ _ (mergedF_f0 l m) (fun k hk => by
    rcases List.mem_append.1 hk with hk | hk
    · obtain ⟨x, hx, rfl⟩ := List.mem_map.1 hk; exact h x hx
    · obtain ⟨x, hx, rfl⟩ := List.mem_map.1 hk; exact h' x hx) (mergedF_names l m)
end Go.Proofs.Ytfepfpcilmaojaa.QV
