/- slices.AppendSeq(nil, seq), slices.Collect(seq) of names. -/
import Derived.Test.YtfepfpcilmaojaaKeys
import Derived.Maps.OwnIn
namespace Go.Proofs.Ytfepfpcilmaojaa.QV
open Go.RowKit Go.Proofs.YtfepfpcilmaojaaW.PrintWords Go.Proofs.Ytfepfpcilmaojaa.Seq Go.Proofs.Ytfepfpcilmaojaa.Mp Go.Shelf
set_option linter.unusedVariables false
set_option linter.unusedSimpArgs false
attribute [local go_sem] Oper.semAt_some
abbrev tNms : Nat := 77
def nmC (x : Nm) : List Value := [.int .u64 x.f0, .int .u32 x.f1]
theorem infoNm' : ∃ i, Try.prog.info? tNm = some i ∧ i.zero = some (.agg #[.int .u64 0, .int .u32 0]) ∧ i.size = 2 ∧ i.bytes = 16 := by
  have h : (Try.prog.info? tNm).map (fun i => (i.zero, i.size, i.bytes)) = some (some (.agg #[.int .u64 0, .int .u32 0]), 2, 16) := by kernel_rfl
  obtain ⟨i, hi, h2⟩ := Option.map_eq_some_iff.1 h
  simp at h2
  exact ⟨i, hi, h2.1, h2.2.1, h2.2.2⟩
/-- Between two rounds: what has been gathered lies in a box. -/
def ApI (B b0 : Nat) (pre : List Nm) (M : Nat → Prop) (A : World) : Prop :=
  M B ∧ ∃ v, A.heap[B]? = some (.cells #[v] tNms (0, 0)) ∧ A.ownsRow b0 tNm 2 v pre.length (pre.flatMap nmC) ∧ ∀ k, v.ownBlock = some k → M k ∧ k ≠ B
theorem ApI.kept {B b0 : Nat} {pre : List Nm} {M : Nat → Prop} {A A' : World} {q : Nat → Prop} (h : ApI B b0 pre M A) (hk : Kpt (fun i => q i ∧ ¬ M i) A A') : ApI B b0 pre M A' := by
  obtain ⟨h1, v, h2, h3, h4⟩ := h
  exact ⟨h1, v, hk.at h2 (fun h => h.2 h1), own_move h3 (fun k hk' => hk.block k (own_lt h3 k hk') (fun h => h.2 (h4 k hk').1)), h4⟩

set_option maxRecDepth 100000 in
set_option maxHeartbeats 2000000 in
theorem appendSeq_any (g : Nat) (lb : Array Value) (n : Nat) (En : List Nm → Prop) (w0 w : World) (eg : ∀ args w, (callFunc g args).run Try.prog w = .ok (.enter g args) w)
    (hseq : SeqP Try.prog g lb RdNm (fun pre => pre.length ≤ n) En w0) (hb0 : Below w0.heap.size w0 w) (hn : n * 16 ≤ 140737488355328) :
    Calls Try.prog 54 #[.slice none 0 0, .func (.func g) #[] lb] w fun e w' => ∃ v xs, e = .returned v ∧ En xs ∧ w'.ownsRow w.heap.size tNm 2 v xs.length (xs.flatMap nmC) ∧ Below w.heap.size w w' := by
  obtain ⟨i0, hi, hz0, hz1, hz2⟩ := infoNm'
  refine (callsIn_wide (n := 0)).1 (callsIn_of_wp_marks Try.func54 rfl trivial ?_ rfl)
  simp only [Try.ntmps54, List.size_toArray, List.length_cons, List.length_nil, Nat.reduceAdd, Nat.reduceSub, Array.replicate_succ, Array.replicate_zero, List.push_toArray, List.append_toArray, List.nil_append, List.cons_append]
  gi_wp2
  have hz : w0.heap.size ≤ w.heap.size := hb0.size
  refine wpIn_rangeP (gf := g) (lb := lb) rfl eg hseq (hb0.trans (((Below.refl _ w).alloc (Nat.le_refl _) _).mono hz)) (fun A N x vs h => by obtain ⟨_, _, rfl⟩ := h; rfl) (fun A B N x vs h hk => h)
    (ApI w.heap.size w.heap.size) (fun _ _ _ _ => False) (fun pre M A B h hk => h.kept hk) (fun _ _ _ _ _ h _ => h)
    (fun i => i = w.heap.size) ?hM ?h0 (fun x vs a₁ M A => ∃ bx, M bx ∧ A.heap[bx]? = some (.cells #[.int .u64 x.f0, .int .u32 x.f1] tNm (0, 0)) ∧ bx ≠ w.heap.size ∧ a₁ = { tmps := #[.slice none 0 0, .func (.func g) #[] lb, .pointer (some ⟨w.heap.size, 0, none⟩), undef, .slice none 0 0, .pointer (some ⟨bx, 0, none⟩), .func (.func g) #[] lb, .agg #[.int .u64 x.f0, .int .u32 x.f1], undef, undef, undef, undef, undef], defers := [] })
    (fun x vs a₁ M A B h hk => by obtain ⟨bx, h1, h2, h3⟩ := h; exact ⟨bx, h1, hk.at h2 (fun h => h.2 h1), h3⟩) ?assign ?body ?done ?stop
  case hM => intro i hi; subst hi; simp; omega
  case h0 => exact ⟨rfl, _, World.alloc_heap_new w _, ⟨by simp, .inl ⟨rfl, rfl⟩⟩, fun k hk => by simp [Value.ownBlock] at hk⟩
  case assign =>
    intro l pre x vs N A M hI hpre hrd hM hN
    obtain ⟨_, hxk, rfl⟩ := hrd
    gi_wp2
    have hBA := blk_lt hI.2.choose_spec.1
    refine ⟨fun i => M i ∨ i = A.heap.size, fun i hi => ⟨by rcases hi with h | h; exact .inl h; exact .inr (by omega), by rcases hi with h | h; exact Nat.lt_of_lt_of_le (hM i h).2 (by simp); simp; omega⟩, Kpt.alloc _ _ _, ?_, A.heap.size, .inr rfl, World.alloc_heap_new A _, by omega, rfl⟩
    obtain ⟨h1, v, h2, h3, h4⟩ := hI
    exact ⟨.inl h1, v, blk_alloc h2 _, pw_own_below h3 (below_alloc (Below.refl _ _) _), fun k hk => ⟨.inl (h4 k hk).1, (h4 k hk).2⟩⟩
  case stop =>
    intro D c pre W M' hpre h
    exact h.elim
  case done =>
    intro D xs W M' hen hI hk hM' hD hDw hDM
    obtain ⟨hMB, v, hbx, hS, hvM⟩ := hI
    have hc : W.cell? ⟨w.heap.size, 0, none⟩ = some v := blk_cell hbx 0
    have hB : Below w.heap.size w W := ((Below.refl _ w).alloc (Nat.le_refl _) _).trans (hk.below (by simp) (fun i _ e => by omega))
    gi_wp2
    refine ⟨by simp, .inl ⟨_, _, rfl, run_takeDeferred hD, ?_⟩⟩
    have hp : Kpt (fun i => i = D) W (W.putObj D (.deferred none)) := .putObj _ _ _
    exact ⟨_, results_tmp rfl _ _ _, v, xs, rfl, hen, own_move hS (fun k hk' => hp.block k (own_lt hS k hk') (fun e => hDM (by rw [← e]; exact (hvM k hk').1))), hB.trans (hp.below hB.size (fun i _ e => by rw [e]; simp at hDw; omega))⟩
  case body =>
    intro l pre x vs N A M a₁ hI hpre hrd hax hM hN
    obtain ⟨bx, hMx, hbx2, hxB, rfl⟩ := hax
    obtain ⟨hMB, v, hbx, hS, hvM⟩ := hI
    have hlen : pre.length + 1 ≤ n := by simpa using hpre
    have c0 : A.cell? ⟨w.heap.size, 0, none⟩ = some v := blk_cell hbx 0
    have f0 : A.frozen? ⟨w.heap.size, 0, none⟩ = false := blk_frozen hbx 0
    have x0 : A.cell? ⟨bx, 0, none⟩ = some (.int .u64 x.f0) := blk_cell hbx2 0
    have x1 : A.cell? ⟨bx, 1, none⟩ = some (.int .u32 x.f1) := blk_cell hbx2 1
    have hzA : w.heap.size < A.heap.size := blk_lt hbx
    gi_wp2_with (first
      | (gi_at_builtin; refine wpListIn_append_own_at _ rfl _ _ tNms rfl w.heap.size tNm i0 _ 2 16 Try.underlying77 hi hz0 hz1 hz2 rfl (by decide) v pre.length (pre.flatMap nmC) rfl (pw_own_below hS (below_alloc (Below.refl _ _) _)) ⟨A.heap.size, 0, none⟩ 1 1 (nmC x) rfl rfl (fun j u hj => ?_) (by simp [nmC, Value.oneCell']) (by unfold maxLen; omega) (by omega) (by simp; omega) ?_)
      | gi_in)
    · have h0 : ∀ j, (A.alloc (.cells #[.int .u64 x.f0, .int .u32 x.f1] tNm)).cell? ⟨A.heap.size, j, none⟩ = (#[.int .u64 x.f0, .int .u32 x.f1] : Array Value)[j]? := fun j => blk_cell (blk_new A _) j
      rw [add_plain, h0]
      simpa [nmC] using hj
    · intro v' w1 hown' hg' hnil hat
      obtain ⟨A', c', rfl⟩ := own_slice hown'
      have hbx1 : w1.heap[w.heap.size]? = some (.cells #[v] tNms (0, 0)) := blk_grown (blk_alloc hbx _) hg' (fun e => (hvM _ e.symm).2 rfl)
      have cc : w1.cell? ⟨w.heap.size, 0, none⟩ = some v := blk_cell hbx1 0
      have ff : w1.frozen? ⟨w.heap.size, 0, none⟩ = false := blk_frozen hbx1 0
      gi_wp2
      obtain ⟨w2, hw2⟩ : ∃ w2, w1.setCell ⟨w.heap.size, 0, none⟩ (.slice A' (pre.length + 1) c') = w2 := ⟨_, rfl⟩
      rw [hw2]
      have hk2 : Kpt (fun i => i = w.heap.size) w1 w2 := by rw [← hw2]; exact Kpt.setCell w1 ⟨w.heap.size, 0, none⟩ _
      have hbx2 : w2.heap[w.heap.size]? = some (.cells #[.slice A' (pre.length + 1) c'] tNms (0, 0)) := by rw [← hw2]; exact blk_set hbx1 0 _
      have hs1 : A.heap.size + 1 ≤ w1.heap.size := by have := hg'.size; simpa using this
      have hvB : ∀ k, (Value.slice A' (pre.length + 1) c').ownBlock = some k → ((M k ∧ k ≠ w.heap.size) ∨ A.heap.size ≤ k) := fun k hk => by
        rcases hat with h | h
        · exact .inl (hvM k (by rw [← h]; exact hk))
        · rw [h] at hk; exact .inr (by simp at hk; omega)
      refine ⟨fun i => (M i ∨ A.heap.size ≤ i) ∧ i < w2.heap.size, fun i hi => ⟨by rcases hi.1 with h | h; exact .inl h; exact .inr (.inr h), hi.2⟩, ?_, ⟨.inl hMB, by have := hk2.size; omega⟩, _, hbx2, ?_, fun k hk => ⟨⟨?_, ?_⟩, ?_⟩⟩
      · refine ((Kpt.alloc M A _).trans (Kpt.grown hg') (M := M) (fun i hi h => ?_)).trans hk2 (fun i hi h => ?_)
        · rcases h with h | h
          · exact h
          · exact (hvM i h.symm).1
        · rcases h with h | h
          · exact .inl h
          · rw [h]; exact .inl hMB
      · have h1 := own_move hown' (w1 := w2) (fun k hk => hk2.block k (own_lt hown' k hk) (fun e => by rcases hvB k hk with h | h; exact h.2 e; omega))
        simpa using h1
      · exact (hvB k hk).imp (fun h => h.1) id
      · exact Nat.lt_of_lt_of_le (own_lt hown' k hk) hk2.size
      · intro e; rcases hvB k hk with h | h; exact h.2 e; omega
/-- slices.Collect. -/
theorem collect_any (g : Nat) (lb : Array Value) (n : Nat) (En : List Nm → Prop) (w0 w : World) (eg : ∀ args w, (callFunc g args).run Try.prog w = .ok (.enter g args) w)
    (hseq : SeqP Try.prog g lb RdNm (fun pre => pre.length ≤ n) En w0) (hb0 : Below w0.heap.size w0 w) (hn : n * 16 ≤ 140737488355328) :
    Calls Try.prog 49 #[.func (.func g) #[] lb] w fun e w' => ∃ v xs, e = .returned v ∧ En xs ∧ w'.ownsRow w.heap.size tNm 2 v xs.length (xs.flatMap nmC) ∧ Below w.heap.size w w' := by
  go_enter Try.func49, Try.ntmps49
  go_wp2_with (go_at_call 54; refine (appendSeq_any g lb n En w0 _ eg hseq hb0 hn).mono ?_; rintro e w1 ⟨v, xs, rfl, hen, ho, hB⟩)
  go_ret
  exact ⟨v, xs, rfl, hen, ho, hB⟩
end Go.Proofs.Ytfepfpcilmaojaa.QV
