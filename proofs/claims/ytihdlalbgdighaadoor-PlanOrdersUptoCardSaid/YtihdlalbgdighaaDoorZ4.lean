/- The parts Collect, AnsP, XOpen5, ConcI, WaysP, WaysW, Choose, AnsW, Alive16, GrpK, Right, Total, SumP, SumT, TurnP, Turned, LPOrders of this proof, one behind the other. -/
import Derived.Test.YtihdlalbgdighaaDoorZ3
import Derived.Lib.Hide
import Derived.Deep.CutRange
import Derived.Handy
/- exec.Collect: what an iterator gives, so many at most. -/
namespace Go.Proofs.YtihdlalbgdighaaDoor.QV
open Go.RowKit Go.Proofs.YtihdlalbgdighaaDoorW.PrintWords Go.Proofs.YtihdlalbgdighaaDoor.Seq Go.Shelf Go.Proofs.YtihdlalbgdighaaDoor.Op
set_option linter.unusedVariables false
set_option linter.unusedSimpArgs false
set_option maxRecDepth 100000
attribute [local go_sem] Oper.semAt_some
theorem results_11 {fn : Func} {p p' : Tmp} {ty ty' : TypeId} (h : fn.results = #[.cell p ty, .cell p' ty']) (tmps : Array Value) (P : Program) (w : World) (a a' : Addr) (v v' : Value)
    (hp : tmps.getD p undef = .pointer (some a)) (hp' : tmps.getD p' undef = .pointer (some a')) (hc : w.cell? a = some v) (hc' : w.cell? a' = some v')
    (hu : ∀ w, (isAgg ty).run P w = .ok false w) (hu' : ∀ w, (isAgg ty').run P w = .ok false w) : (results fn tmps).run P w = .ok (.tuple #[v, v']) w := by
  have h1 : tmps[p]?.getD undef = .pointer (some a) := by simpa using hp
  have h2 : tmps[p']?.getD undef = .pointer (some a') := by simpa using hp'
  simp [results, h, h1, h2, asAddr, loadVar, hu, hu', Sem.run_bind, run_load, hc, hc']
/-- Between two rounds: the rows so far lie in the box at b + 3; the others as they were. -/
def ColI (b : Nat) (most : Int) (pre : List Row) (M : Nat → Prop) (A : World) : Prop :=
  (∀ i, i = b + 1 ∨ i = b + 2 ∨ i = b + 3 → M i) ∧ (pre.length : Int) ≤ most ∧ A.heap[b + 1]? = some (.cells #[.slice none 0 0] 28 (0, 0)) ∧ A.heap[b + 2]? = some (.cells #[.int .i64 0] 32 (0, 0)) ∧
    ∃ v, A.heap[b + 3]? = some (.cells #[v] 28 (0, 0)) ∧ Kd.S kRows tRow A b (fun k => M k ∧ k ≠ b + 1 ∧ k ≠ b + 2 ∧ k ≠ b + 3) v pre
theorem ColI.kept {b : Nat} {most : Int} {pre : List Row} {M : Nat → Prop} {A B : World} {q : Nat → Prop} (h : ColI b most pre M A) (hk : Kpt (fun i => q i ∧ ¬ M i) A B) : ColI b most pre M B := by
  obtain ⟨h1, h0, h2, h3, v, h4, h5⟩ := h
  exact ⟨h1, h0, hk.at h2 (fun h => h.2 (h1 _ (by omega))), hk.at h3 (fun h => h.2 (h1 _ (by omega))), v, hk.at h4 (fun h => h.2 (h1 _ (by omega))), Kd.S_step h5 (fun k hk' hlt => hk.block k hlt (fun h => h.2 hk'.1))⟩
set_option maxHeartbeats 4000000 in
theorem collect_any (sv : Value) (xs : List Row) (most : Int) (w : World) (hs : IsSeq w sv xs) (hm0 : 0 ≤ most) (hm1 : most ≤ 1048576) (hb : ∀ x ∈ xs, x.length ≤ 2097152) :
    Calls Tryd.prog 23 #[sv, .int .i64 most] w fun e w' => Below w.heap.size w w' ∧ (((xs.length : Int) ≤ most ∧ ∃ v, e = .returned (.tuple #[v, .int .i64 0]) ∧ Kd.S kRows tRow w' w.heap.size (fun _ => True) v xs) ∨ (most < (xs.length : Int) ∧ e = .returned (.tuple #[.slice none 0 0, .int .i64 150]))) := by
  obtain ⟨g, lb, Rd, rfl, eg, hseq, hkR, hrR⟩ := hs
  have hfn := fun (w : World) => run_func_nil (P := Tryd.prog) Tryd.underlying65 (.func g) lb w
  refine (callsIn_wide (n := 0)).1 (callsIn_of_wp_marks Tryd.func23 rfl trivial ?_ rfl)
  simp only [Tryd.ntmps23, List.size_toArray, List.length_cons, List.length_nil, Nat.reduceAdd, Nat.reduceSub, Array.replicate_succ, Array.replicate_zero, List.push_toArray, List.append_toArray, List.nil_append, List.cons_append]
  gi_wp2
  obtain ⟨w1, hw1⟩ : ∃ w1, (((w.alloc (.cells #[.int .i64 most] 3)).alloc (.cells #[.slice none 0 0] 28)).alloc (.cells #[.int .i64 0] 32)).alloc (.cells #[.slice none 0 0] 28) = w1 := ⟨_, rfl⟩
  rw [hw1]
  have hb1 : Below w.heap.size w w1 := by rw [← hw1]; exact below_alloc (below_alloc (below_alloc (below_alloc (Below.refl _ _) _) _) _) _
  have hz1 : w1.heap.size = w.heap.size + 4 := by rw [← hw1]; simp
  have hx0 : w1.heap[w.heap.size]? = some (.cells #[.int .i64 most] 3 (0, 0)) := by rw [← hw1]; exact blk_alloc (blk_alloc (blk_alloc (blk_new _ _) _) _) _
  have hx1 : w1.heap[w.heap.size + 1]? = some (.cells #[.slice none 0 0] 28 (0, 0)) := by
    have := blk_new (w.alloc (.cells #[.int .i64 most] 3)) (.cells #[.slice none 0 0] 28)
    rw [World.size_alloc] at this
    rw [← hw1]; exact blk_alloc (blk_alloc this _) _
  have hx2 : w1.heap[w.heap.size + 2]? = some (.cells #[.int .i64 0] 32 (0, 0)) := by
    have := blk_new ((w.alloc (.cells #[.int .i64 most] 3)).alloc (.cells #[.slice none 0 0] 28)) (.cells #[.int .i64 0] 32)
    rw [World.size_alloc, World.size_alloc] at this
    rw [← hw1]; exact blk_alloc this _
  have hx3 : w1.heap[w.heap.size + 3]? = some (.cells #[.slice none 0 0] 28 (0, 0)) := by
    have := blk_new (((w.alloc (.cells #[.int .i64 most] 3)).alloc (.cells #[.slice none 0 0] 28)).alloc (.cells #[.int .i64 0] 32)) (.cells #[.slice none 0 0] 28)
    rw [World.size_alloc, World.size_alloc, World.size_alloc] at this
    rw [← hw1]; exact this
  clear hw1
  refine wpIn_range (gf := g) (lb := lb) rfl eg hseq hb1 (fun A N x vs h => by obtain ⟨Ad, c, rfl, _⟩ := hrR _ _ _ _ h; rfl) hkR
    (fun pre M A => ColI w.heap.size most pre M A ∧ Below w.heap.size w A ∧ (∀ i, M i → w.heap.size + 1 ≤ i) ∧ A.heap[w.heap.size]? = some (.cells #[.int .i64 most] 3 (0, 0))) (fun c pre M A => c = .ret ∧ most < (xs.length : Int) ∧ A.heap[w.heap.size + 1]? = some (.cells #[.slice none 0 0] 28 (0, 0)) ∧ A.heap[w.heap.size + 2]? = some (.cells #[.int .i64 150] 32 (0, 0)) ∧ (M (w.heap.size + 1) ∧ M (w.heap.size + 2)) ∧ Below w.heap.size w A)
    (fun pre M A B h hk => ⟨h.1.kept hk, h.2.1.trans (hk.below h.2.1.size (fun i _ k => by omega)), h.2.2.1, hk.at h.2.2.2 (fun k => by omega)⟩) (fun c pre M A B h hk => ⟨h.1, h.2.1, hk.at h.2.2.1 (fun k => k.2 h.2.2.2.2.1.1), hk.at h.2.2.2.1 (fun k => k.2 h.2.2.2.2.1.2), h.2.2.2.2.1, h.2.2.2.2.2.trans (hk.below h.2.2.2.2.2.size (fun i _ k => by omega))⟩)
    (fun i => i = w.heap.size + 1 ∨ i = w.heap.size + 2 ∨ i = w.heap.size + 3) ?hM ?h0 (fun x vs a₁ M A => ∃ v, vs = #[v] ∧ a₁ = { tmps := #[.func (.func g) #[] lb, .int .i64 most, undef, .pointer (some ⟨w.heap.size, 0, none⟩), .pointer (some ⟨w.heap.size + 1, 0, none⟩), .pointer (some ⟨w.heap.size + 1 + 1, 0, none⟩), .pointer (some ⟨w.heap.size + 1 + 1 + 1, 0, none⟩), v, .func (.func g) #[] lb, v] ++ Array.replicate 10 undef, defers := [] })
    (fun _ _ _ _ _ _ h _ => h) ?assign ?body ?done ?stop
  case hM => intro i hi; omega
  case h0 => exact ⟨⟨fun i h => h, hm0, hx1, hx2, _, hx3, Kd.S_nil _ _ _ _ _⟩, hb1, fun i h => by omega, hx0⟩
  case assign =>
    intro l pre x vs N A M hI hpre hrd hM hN
    obtain ⟨Ad, c, rfl, hle, hC⟩ := hrR _ _ _ _ hrd
    gi_wp2
    refine ⟨M, fun i hi => ⟨.inl hi, (hM i hi).2⟩, Kpt.refl _ _, hI, _, rfl, ?_⟩
    simp only [List.size_toArray, List.length_cons, List.length_nil, Nat.reduceAdd, Nat.reduceSub, Array.replicate_succ, Array.replicate_zero, List.push_toArray, List.append_toArray, List.nil_append, List.cons_append]
  case stop =>
    intro D c pre W M' hpre hI hk hM' hD hDw hDM
    obtain ⟨rfl, hmost, h4, h5, ⟨m4, m5⟩, hBW⟩ := hI
    gi_wp2
    have hDlt := (Array.getElem?_eq_some_iff.1 hD).1
    refine ⟨by simp, .inl ⟨_, _, rfl, run_takeDeferred hD, ?_⟩⟩
    have hp : Kpt (fun i => i = D) W (W.putObj D (.deferred none)) := .putObj _ _ _
    have h4' := hp.at h4 (fun e => by omega)
    have h5' := hp.at h5 (fun e => by omega)
    exact ⟨_, results_11 rfl _ _ _ _ _ _ _ rfl rfl (blk_cell h4' 0) (blk_cell h5' 0) Tryd.isAgg28 Tryd.isAgg32, hBW.trans (hp.below hBW.size (fun i _ e => by omega)), .inr ⟨hmost, rfl⟩⟩
  case done =>
    intro D W M' hI hk hM' hD hDw hDM
    obtain ⟨⟨hMB, hpm, hb4, hb5, v, hbx, hS⟩, hBW, hMw, hb3⟩ := hI
    obtain ⟨LA, lc, rfl⟩ := Kd.S_slice hS
    have c6 : W.cell? ⟨w.heap.size + 1 + 1 + 1, 0, none⟩ = some (.slice LA xs.length lc) := blk_cell hbx 0
    have g4 : W.cell? ⟨w.heap.size + 1, 0, none⟩ = some (.slice none 0 0) := blk_cell hb4 0
    have g5 : W.cell? ⟨w.heap.size + 1 + 1, 0, none⟩ = some (.int .i64 0) := blk_cell hb5 0
    have f4 : W.frozen? ⟨w.heap.size + 1, 0, none⟩ = false := blk_frozen hb4 0
    have f5 : W.frozen? ⟨w.heap.size + 1 + 1, 0, none⟩ = false := blk_frozen hb5 0
    have hDlt := (Array.getElem?_eq_some_iff.1 hD).1
    gi_wp2
    obtain ⟨W2, hW2⟩ : ∃ W2, (W.setCell ⟨w.heap.size + 1, 0, none⟩ (.slice LA xs.length lc)).setCell ⟨w.heap.size + 1 + 1, 0, none⟩ (.int .i64 0) = W2 := ⟨_, rfl⟩
    have hk2 : Kpt (fun i => i = w.heap.size + 1 ∨ i = w.heap.size + 2) W W2 := by
      rw [← hW2]
      exact (Kpt.setCell W ⟨w.heap.size + 1, 0, none⟩ _).trans (Kpt.setCell _ ⟨w.heap.size + 1 + 1, 0, none⟩ _) (fun _ _ h => h)
    have h4 : W2.heap[w.heap.size + 1]? = some (.cells #[.slice LA xs.length lc] 28 (0, 0)) := by
      rw [← hW2]
      have := (Kpt.setCell (W.setCell ⟨w.heap.size + 1, 0, none⟩ (.slice LA xs.length lc)) ⟨w.heap.size + 1 + 1, 0, none⟩ (.int .i64 0)).at (blk_set hb4 0 (.slice LA xs.length lc)) (by show ¬ w.heap.size + 1 = w.heap.size + 1 + 1; omega)
      simpa using this
    have h5 : W2.heap[w.heap.size + 2]? = some (.cells #[.int .i64 0] 32 (0, 0)) := by
      rw [← hW2]
      have := blk_set ((Kpt.setCell W ⟨w.heap.size + 1, 0, none⟩ (.slice LA xs.length lc)).at hb5 (by show ¬ w.heap.size + 2 = w.heap.size + 1; omega)) 0 (.int .i64 0)
      simpa using this
    rw [hW2]
    have hD2 : W2.heap[D]? = some (.deferred (some [])) := hk2.at hD (by omega)
    refine ⟨by simp, .inl ⟨_, _, rfl, run_takeDeferred hD2, ?_⟩⟩
    have hp : Kpt (fun i => i = D) W2 (W2.putObj D (.deferred none)) := .putObj _ _ _
    have h4' := hp.at h4 (fun e => by omega)
    have h5' := hp.at h5 (fun e => by omega)
    have hB2 : Below w.heap.size w (W2.putObj D (.deferred none)) := (hBW.trans (hk2.below hBW.size (fun i _ e => by omega))).trans (hp.below (by have := hBW.size; have := hk2.size; omega) (fun i _ e => by omega))
    refine ⟨_, results_11 rfl _ _ _ _ _ _ _ rfl rfl (blk_cell h4' 0) (blk_cell h5' 0) Tryd.isAgg28 Tryd.isAgg32, hB2, .inl ⟨hpm, _, rfl, ?_⟩⟩
    refine Kd.S_mono (Kd.S_step (Kd.S_step hS (fun k hk' hlt => hk2.block k hlt (fun e => by have := hk'.2; omega))) (fun k hk' hlt => hp.block k hlt (fun e => hDM (by rw [← e]; exact hk'.1)))) (fun _ _ => trivial)
  case body =>
    intro l2 pre x vs N A M a₁ hI hpre hrd hax hM hN
    obtain ⟨v, rfl, rfl⟩ := hax
    simp only [List.size_toArray, List.length_cons, List.length_nil, Nat.reduceAdd, Nat.reduceSub, Array.replicate_succ, Array.replicate_zero, List.push_toArray, List.append_toArray, List.nil_append, List.cons_append]
    obtain ⟨⟨hMB, hpm, hb4, hb5, vl, hbx, hS⟩, hBW, hMw, hb3⟩ := hI
    obtain ⟨Ad, c, hvv, hle, hC⟩ := hrR _ _ _ _ hrd
    obtain rfl : v = .slice Ad x.length c := by simpa using hvv
    clear hvv
    have hxl := hb x (hpre.subset (by simp))
    have hlen : pre.length + 1 ≤ xs.length := by have := hpre.length_le; simpa using this
    obtain ⟨LA, lc, rfl⟩ := Kd.S_slice hS
    have hzA := blk_lt hbx
    have c3 : A.cell? ⟨w.heap.size, 0, none⟩ = some (.int .i64 most) := blk_cell hb3 0
    have c6 : A.cell? ⟨w.heap.size + 1 + 1 + 1, 0, none⟩ = some (.slice LA pre.length lc) := blk_cell hbx 0
    have g4 : A.cell? ⟨w.heap.size + 1, 0, none⟩ = some (.slice none 0 0) := blk_cell hb4 0
    have g5 : A.cell? ⟨w.heap.size + 1 + 1, 0, none⟩ = some (.int .i64 0) := blk_cell hb5 0
    have f4 : A.frozen? ⟨w.heap.size + 1, 0, none⟩ = false := blk_frozen hb4 0
    have f5 : A.frozen? ⟨w.heap.size + 1 + 1, 0, none⟩ = false := blk_frozen hb5 0
    by_cases hfull : most ≤ (pre.length : Int)
    · have hfd : decide (most ≤ (pre.length : Int)) = true := decide_eq_true hfull
      gi_wp2
      obtain ⟨W2, hW2⟩ : ∃ W2, (A.setCell ⟨w.heap.size + 1, 0, none⟩ (.slice none 0 0)).setCell ⟨w.heap.size + 1 + 1, 0, none⟩ (.int .i64 150) = W2 := ⟨_, rfl⟩
      have hk2 : Kpt (fun i => i = w.heap.size + 1 ∨ i = w.heap.size + 2) A W2 := by
        rw [← hW2]
        exact (Kpt.setCell A ⟨w.heap.size + 1, 0, none⟩ _).trans (Kpt.setCell _ ⟨w.heap.size + 1 + 1, 0, none⟩ _) (fun _ _ h => h)
      have h4 : W2.heap[w.heap.size + 1]? = some (.cells #[.slice none 0 0] 28 (0, 0)) := by
        rw [← hW2]
        have := (Kpt.setCell (A.setCell ⟨w.heap.size + 1, 0, none⟩ (.slice none 0 0)) ⟨w.heap.size + 1 + 1, 0, none⟩ (.int .i64 150)).at (blk_set hb4 0 (.slice none 0 0)) (by show ¬ w.heap.size + 1 = w.heap.size + 1 + 1; omega)
        simpa using this
      have h5 : W2.heap[w.heap.size + 2]? = some (.cells #[.int .i64 150] 32 (0, 0)) := by
        rw [← hW2]
        have := blk_set ((Kpt.setCell A ⟨w.heap.size + 1, 0, none⟩ (.slice none 0 0)).at hb5 (by show ¬ w.heap.size + 2 = w.heap.size + 1; omega)) 0 (.int .i64 150)
        simpa using this
      rw [hW2]
      exact ⟨M, fun i hi => ⟨.inl hi, Nat.lt_of_lt_of_le (hM i hi).2 hk2.size⟩, hk2.mono (fun i _ h => .inl (hMB i (by omega))), rfl, by omega, h4, h5, ⟨hMB _ (by omega), hMB _ (by omega)⟩, hBW.trans (hk2.below hBW.size (fun i _ h => by omega))⟩
    · have hfd : decide (most ≤ (pre.length : Int)) = false := decide_eq_false hfull
      have c0 : A.drew.cell? ⟨w.heap.size + 1 + 1 + 1, 0, none⟩ = some (.slice LA pre.length lc) := c6
      have f0 : A.drew.frozen? ⟨w.heap.size + 1 + 1 + 1, 0, none⟩ = false := blk_frozen hbx 0
      gi_wp2
      refine wpIn_region_R 5 (S := fun W' => W'.cell? ⟨w.heap.size + 1 + 1 + 1, 0, none⟩ = some (.slice LA pre.length lc) ∧ W'.frozen? ⟨w.heap.size + 1 + 1 + 1, 0, none⟩ = false) (by kernel_rfl) ⟨c0, f0⟩ (fun hS0 => ?_)
      refine wpAnyR_take (i := 0) (oi := ⟨some 14, _, _, _, _, _⟩) (v := ?_) (by kernel_rfl) (by kernel_rfl) rfl (by kernel_rfl) (by kernel_rfl) (by kernel_rfl) (fun _ _ _ h => h) (Or.inl ⟨by rfl, ?_⟩) (by assumption) ?_
      rotate_left
      · intro w hSw; (try dsimp only at hSw); (try go_split_ands); go_simp; (try (with_reducible rfl))
      (try simp only [Act.put, List.setIfInBounds_toArray, List.set_cons_zero, List.set_cons_succ])
      refine wpAnyR_take (i := 1) (oi := ⟨some 15, _, _, _, _, _⟩) (v := ?_) (by kernel_rfl) (by kernel_rfl) rfl (by kernel_rfl) (by kernel_rfl) (by kernel_rfl) (fun _ _ _ h => h) (Or.inl ⟨by rfl, ?_⟩) (by assumption) ?_
      rotate_left
      · intro w hSw; (try dsimp only at hSw); (try go_split_ands); go_simp; (try (with_reducible rfl))
      (try simp only [Act.put, List.setIfInBounds_toArray, List.set_cons_zero, List.set_cons_succ])
      refine wpAnyR_one (i := 2) (o := ⟨some 16, _, _, _, _, _⟩) (by kernel_rfl) (by kernel_rfl) rfl (fun K hK => ?_)
      go_simp
      refine (clone_any Ad x c A.drew (Kd.C_drew hC) hle (by omega)).mono ?_
      rintro e W1 ⟨v1, rfl, hR1, hb1⟩
      have hb1A : Below A.heap.size A W1 := (below_drew (Below.refl _ A)).trans hb1
      have hbx1 := blk_below hbx hb1A
      (try dsimp only)
      refine hK.out _ _ (.inr ⟨blk_cell hbx1 0, blk_frozen hbx1 0⟩) ?_
      clear hK K
      (try simp only [Act.put, List.setIfInBounds_toArray, List.set_cons_zero, List.set_cons_succ])
      obtain ⟨A1, c1, rfl, hle1, hC1⟩ := Kd.R_reads hR1
      refine wpAnyR_one (i := 3) (o := ⟨some 17, _, _, _, _, _⟩) (by kernel_rfl) (by kernel_rfl) rfl (fun K hK => ?_)
      go_simp
      refine hK.out _ _ (.inr ⟨blk_cell (blk_alloc hbx1 _) 0, blk_frozen (blk_alloc hbx1 _) 0⟩) ?_
      clear hK K
      (try simp only [Act.put, List.setIfInBounds_toArray, List.set_cons_zero, List.set_cons_succ])
      refine wpAnyR_one (i := 4) (o := ⟨some 18, _, _, _, _, _⟩) (by kernel_rfl) (by kernel_rfl) rfl (fun K hK => ?_)
      have hzA1 : A.heap.size ≤ W1.heap.size := hb1A.size
      refine Kd.S_append_step kRows (w0 := A) w.heap.size (by rfl) (.tmp 14) (.tmp 17) 28 62 _ 24 rfl Tryd.underlying28 infoRow rfl (by decide) (by decide) (.slice LA pre.length lc) pre x [.slice A1 x.length c1]
        (fun k => (M k ∧ k ≠ w.heap.size + 1 ∧ k ≠ w.heap.size + 2 ∧ k ≠ w.heap.size + 3) ∨ A.heap.size ≤ k) (fun k => (Value.slice A1 x.length c1).ownBlock = some k) rfl rfl ⟨_, rfl, RS_ok (Kd.R_lower hR1 (by show w.heap.size ≤ A.heap.size; omega)) (fun _ h => h)⟩ ?_ (fun k hk => .inr (by omega)) ?_ (hb1A.mono (by omega)) (by omega) (by omega) ?_
      · intro k hk
        have := Kd.R_base hR1 k hk
        exact ⟨.inr this, fun e => by have h2 := Kd.S_lt hS k e.symm; exact absurd this (by show ¬ A.heap.size ≤ k; omega)⟩
      · refine Kd.S_mono (Kd.S_below (Kd.S_bound hS) hb1A) (fun k hk => ⟨.inl hk.1, fun h => ?_⟩)
        have := Kd.R_base hR1 k h
        exact absurd this (by show ¬ A.heap.size ≤ k; have := hk.2.2.1; omega)
      intro v2 W2 hS2 hB2 hg2 hat2
      obtain ⟨g2, cap2, rfl, hg2b, hg2l, cells2, hcells2⟩ := Kd.S_form hS2 (by simp)
      have hlapp : (pre ++ [x]).length = pre.length + 1 := by simp
      rw [hlapp] at hS2
      have hbx2 := blk_grown hbx1 hg2 (Kd.S_away hS (fun k hk => hk.2.2.2))
      have hb42 := blk_grown (blk_below hb4 hb1A) hg2 (Kd.S_away hS (fun k hk => hk.2.1))
      have hb52 := blk_grown (blk_below hb5 hb1A) hg2 (Kd.S_away hS (fun k hk => hk.2.2.1))
      have hb32 := blk_grown (blk_below hb3 hb1A) hg2 (Kd.S_away hS (fun k hk => by have := hMw k hk.1; omega))
      refine hK.out _ _ (.inr ⟨blk_cell hbx2 0, blk_frozen hbx2 0⟩) ?_
      clear hK K
      (try simp only [Act.put, List.setIfInBounds_toArray, List.set_cons_zero, List.set_cons_succ])
      have hc2 : W2.cell? ⟨w.heap.size + 1 + 1 + 1, 0, none⟩ = some (.slice LA pre.length lc) := blk_cell hbx2 0
      have hf2 : W2.frozen? ⟨w.heap.size + 1 + 1 + 1, 0, none⟩ = false := blk_frozen hbx2 0
      refine wpAnyR_one (i := 5) (o := ⟨none, _, _, _, _, _⟩) (by kernel_rfl) (by kernel_rfl) rfl (fun K hK => ?_)
      go_simp
      refine hK.out _ _ (.inl rfl) ?_
      clear hK K
      (try simp only [Act.put, List.setIfInBounds_toArray, List.set_cons_zero, List.set_cons_succ])
      refine wpAnyR_done (by kernel_rfl) ?_ _
      gi_wp2
      have hzA2 : W1.heap.size ≤ W2.heap.size := hg2.size
      obtain ⟨W3, hW3⟩ : ∃ W3, W2.setCell ⟨w.heap.size + 1 + 1 + 1, 0, none⟩ (.slice (some ⟨g2, 0, none⟩) (pre.length + 1) cap2) = W3 := ⟨_, rfl⟩
      rw [hW3]
      have hk3 : Kpt (fun i => i = w.heap.size + 3) W2 W3 := by rw [← hW3]; exact Kpt.setCell W2 ⟨w.heap.size + 1 + 1 + 1, 0, none⟩ _
      have hbx3 : W3.heap[w.heap.size + 3]? = some (.cells #[.slice (some ⟨g2, 0, none⟩) (pre.length + 1) cap2] 28 (0, 0)) := by rw [← hW3]; exact blk_set hbx2 0 _
      have hS3 : Kd.S kRows tRow W3 w.heap.size (fun k => ((M k ∧ k ≠ w.heap.size + 1 ∧ k ≠ w.heap.size + 2 ∧ k ≠ w.heap.size + 3) ∨ A.heap.size ≤ k) ∧ k < W3.heap.size) (.slice (some ⟨g2, 0, none⟩) (pre.length + 1) cap2) (pre ++ [x]) := by
        have h3 := Kd.S_step (w1 := W3) hS2 (fun k hk hlt => hk3.block k hlt (fun e => by rcases hk with hk | hk; exact hk.2.2.2 e; omega))
        exact Kd.S_mono (Kd.S_bound h3) (fun k hk => ⟨hk.1, hk.2.2.1⟩)
      have hKA3 : Kpt M A W3 := by
        refine ((Kpt.of_new M hb1A).trans (Kpt.grown hg2) (M := M) (fun i hi h => ?_)).trans hk3 (fun i hi h => ?_)
        · rcases h with h | h
          · exact h
          · exact ((Kd.S_R hS).1 i h.symm).1
        · rcases h with h | h
          · exact h
          · rw [h]; exact hMB _ (by omega)
      have hz3 := hKA3.size
      refine ⟨fun i => (M i ∨ A.heap.size ≤ i) ∧ i < W3.heap.size, fun i hi => ⟨by rcases hi.1 with h | h; exact .inl h; exact .inr (.inr h), hi.2⟩, hKA3.mono (fun _ _ h => .inl h), ⟨fun i hi => ⟨.inl (hMB i hi), by omega⟩, by rw [hlapp]; omega, hk3.at hb42 (by omega), hk3.at hb52 (by omega), _, hbx3, ?_⟩, hBW.trans (hKA3.below hBW.size (fun i _ h => by have := hMw i h; omega)), fun i hi => ?_, hk3.at hb32 (by omega)⟩
      · refine Kd.S_mono hS3 (fun k hk' => ?_)
        have hlt' := hk'.2
        rcases hk'.1 with h | h
        · exact ⟨⟨.inl h.1, by omega⟩, h.2⟩
        · exact ⟨⟨.inr h, by omega⟩, by omega⟩
      · rcases hi.1 with h | h
        · exact hMw i h
        · omega
end Go.Proofs.YtihdlalbgdighaaDoor.QV
/- What plan.Answer tells, in plain Lean. -/
namespace Go.Proofs.YtihdlalbgdighaaDoor.QV
open Go.RowKit Go.Proofs.YtihdlalbgdighaaDoorW.PrintWords Go.Proofs.YtihdlalbgdighaaDoor.Op Go.Proofs.YtihdlalbgdighaaDoor.Stab
set_option linter.unusedVariables false
set_option linter.unusedSimpArgs false
abbrev Tm : Type := S109
/-- A query, but for the numbers that Answer does not read. -/
structure Qy where
  join : Bool
  lo : Int
  ro : Int
  wh : List Tm
  cols : List Int
  grp : Bool
  byc : List Int
  aggs : List Ag
  ord : List Ord
  lim : Int
/-- The rows that are asked; none: they are too many. -/
def rowsQ (q : Qy) (left right : List Row) : Option (List Row) := if q.join then (if 65536 < (joinL left right q.lo q.ro).length then none else some (joinL left right q.lo q.ro)) else some left
def outQ (q : Qy) (rows : List Row) : List Row := if q.grp then groupL q.byc q.aggs (rows.filter (allS q.wh)) else (rows.filter (allS q.wh)).map (fun x => pickS x q.cols)
def cutQ (q : Qy) (R : List Row) : List Row := if 0 < q.lim ∧ q.lim < (R.length : Int) then R.take q.lim.toNat else R
/-- The answer, and the code. -/
def Ans (q : Qy) (left right : List Row) (R : List Row) (code : Int) : Prop := match rowsQ q left right with
  | none => R = [] ∧ code = 150
  | some rows => (4096 < (outQ q rows).length ∧ R = [] ∧ code = 150) ∨ ((outQ q rows).length ≤ 4096 ∧ code = 0 ∧ ∃ R0, Sorts [] (ordS q.ord) (outQ q rows) R0 ∧ R = cutQ q R0)
/-- How a query lies in memory. -/
structure QAt (w : World) (q : Qy) (u : Array Value) : Prop where
  ex : ∃ (tbl rgt : Int) (wA : Option Addr) (wc : Nat) (cA : Option Addr) (cc : Nat) (bA : Option Addr) (bc : Nat) (gA : Option Addr) (gc : Nat) (oA : Option Addr) (oc : Nat),
    u = #[.int .i64 tbl, .bool q.join, .int .i64 rgt, .int .i64 q.lo, .int .i64 q.ro, .slice wA q.wh.length wc, .slice cA q.cols.length cc, .bool q.grp, .slice bA q.byc.length bc, .slice gA q.aggs.length gc, .slice oA q.ord.length oc, .int .i64 q.lim] ∧
    (kTm.C w wA q.wh.length q.wh ∧ q.wh.length ≤ wc) ∧ (kI.C w cA q.cols.length q.cols ∧ q.cols.length ≤ cc) ∧ (kI.C w bA q.byc.length q.byc ∧ q.byc.length ≤ bc) ∧ (kA.C w gA q.aggs.length q.aggs ∧ q.aggs.length ≤ gc) ∧ (kO.C w oA q.ord.length q.ord ∧ q.ord.length ≤ oc)
theorem QAt.below {w w' : World} {q : Qy} {u : Array Value} (h : QAt w q u) (hb : Below w.heap.size w w') : QAt w' q u := by
  obtain ⟨tbl, rgt, wA, wc, cA, cc, bA, bc, gA, gc, oA, oc, e, h1, h2, h3, h4, h5⟩ := h.ex
  exact ⟨tbl, rgt, wA, wc, cA, cc, bA, bc, gA, gc, oA, oc, e, ⟨Kd.C_below h1.1 hb, h1.2⟩, ⟨Kd.C_below h2.1 hb, h2.2⟩, ⟨Kd.C_below h3.1 hb, h3.2⟩, ⟨Kd.C_below h4.1 hb, h4.2⟩, ⟨Kd.C_below h5.1 hb, h5.2⟩⟩
/-- What a query is not longer than. -/
structure QSmall (q : Qy) : Prop where
  wh : q.wh.length ≤ 1048576
  cols : q.cols.length ≤ 1048576
  grp : q.byc.length + q.aggs.length ≤ 1048576
  ord : q.ord.length ≤ 1048576
theorem outQ_rows {q : Qy} (hq : QSmall q) (rows : List Row) : ∀ x ∈ outQ q rows, x.length ≤ 1048576 := by
  intro x hx
  unfold outQ at hx
  split at hx
  · unfold groupL at hx
    obtain ⟨g, hg, rfl⟩ := List.mem_map.1 hx
    rw [List.length_append, List.length_map, groupsL_klen q.byc _ g hg]
    exact hq.grp
  · obtain ⟨y, _, rfl⟩ := List.mem_map.1 hx
    unfold pickS
    rw [List.length_map]
    exact hq.cols
end Go.Proofs.YtihdlalbgdighaaDoor.QV
/- How a query is opened into the print's kinds. -/
namespace Go.Proofs.YtihdlalbgdighaaDoor.QV
open Go.RowKit Go.Proofs.YtihdlalbgdighaaDoorW.PrintWords Go.Proofs.YtihdlalbgdighaaDoor.Op
set_option linter.unusedVariables false
set_option maxRecDepth 100000
theorem oOd : Opens Tryd.prog 97 k97 (fun _ => True) (fun x => 1) :=
  opens_mono (fun _ _ => trivial) (fun x => by omega)
    (opens_iso (b := fun x => ⟨x.1, x.2⟩) (fun _ => rfl) (opens_struct Tryd.underlying97 (by kernel_rfl)
      (opensF_cons rfl (by kernel_rfl) rfl (opens_int Tryd.underlying3) (opensF_last rfl (by kernel_rfl) (opens_bool Tryd.underlying4)))))
theorem oOds : Opens Tryd.prog 25 (Kd.slice 97 k97) (fun xs => xs.length ≤ 9223372036854775807 ∧ xs.length * 16 ≤ 140737488351232) (fun xs => xs.length + 1) :=
  opens_mono (fun _ h => h.2) (fun xs => by have := len_le_sum (m := fun x : S97 => 1) (fun _ => by omega) xs; omega) (opens_slice Tryd.underlying25 (by kernel_rfl) (by kernel_rfl) oOd)
abbrev QT : Type := Int × Bool × Int × Int × Int × List S109 × List Int × Bool × List Int × List S99 × List S97 × Int
def kQ : Kd QT := Kd.pair (Kd.int .i64) (Kd.pair Kd.bool (Kd.pair (Kd.int .i64) (Kd.pair (Kd.int .i64) (Kd.pair (Kd.int .i64) (Kd.pair (Kd.slice 109 k109) (Kd.pair (Kd.slice 3 (Kd.int .i64)) (Kd.pair Kd.bool (Kd.pair (Kd.slice 3 (Kd.int .i64)) (Kd.pair (Kd.slice 99 k99) (Kd.pair (Kd.slice 97 k97) (Kd.int .i64)))))))))))
theorem oQ : Opens Tryd.prog 27 kQ (fun _ => True) (fun x => x.2.2.2.2.2.1.length + x.2.2.2.2.2.2.1.length + x.2.2.2.2.2.2.2.2.1.length + x.2.2.2.2.2.2.2.2.2.1.length + x.2.2.2.2.2.2.2.2.2.2.1.length + 1) :=
  opens_mono (fun _ _ => trivial) (fun x => by (try simp only); omega)
    (opens_struct Tryd.underlying27 (by kernel_rfl)
      (opensF_cons rfl (by kernel_rfl) rfl (opens_int Tryd.underlying3) (opensF_cons rfl (by kernel_rfl) rfl (opens_bool Tryd.underlying4) (opensF_cons rfl (by kernel_rfl) rfl (opens_int Tryd.underlying3)
      (opensF_cons rfl (by kernel_rfl) rfl (opens_int Tryd.underlying3) (opensF_cons rfl (by kernel_rfl) rfl (opens_int Tryd.underlying3) (opensF_cons rfl (by kernel_rfl) rfl oTms
      (opensF_cons rfl (by kernel_rfl) rfl oInts (opensF_cons rfl (by kernel_rfl) rfl (opens_bool Tryd.underlying4) (opensF_cons rfl (by kernel_rfl) rfl oInts (opensF_cons rfl (by kernel_rfl) rfl oAggs
      (opensF_cons rfl (by kernel_rfl) rfl oOds (opensF_last rfl (by kernel_rfl) (opens_int Tryd.underlying3))))))))))))))
theorem kQ_open {w : World} {x : QT} {cs : List Value} (h : kQ.K w x cs) : ∃ wA wn cA cn bA bn gA gn oA on,
    cs = [.int .i64 x.1, .bool x.2.1, .int .i64 x.2.2.1, .int .i64 x.2.2.2.1, .int .i64 x.2.2.2.2.1, .slice wA x.2.2.2.2.2.1.length wn, .slice cA x.2.2.2.2.2.2.1.length cn, .bool x.2.2.2.2.2.2.2.1, .slice bA x.2.2.2.2.2.2.2.2.1.length bn, .slice gA x.2.2.2.2.2.2.2.2.2.1.length gn, .slice oA x.2.2.2.2.2.2.2.2.2.2.1.length on, .int .i64 x.2.2.2.2.2.2.2.2.2.2.2] ∧
    (kTm.C w wA x.2.2.2.2.2.1.length x.2.2.2.2.2.1 ∧ x.2.2.2.2.2.1.length ≤ wn) ∧ (kI.C w cA x.2.2.2.2.2.2.1.length x.2.2.2.2.2.2.1 ∧ x.2.2.2.2.2.2.1.length ≤ cn) ∧ (kI.C w bA x.2.2.2.2.2.2.2.2.1.length x.2.2.2.2.2.2.2.2.1 ∧ x.2.2.2.2.2.2.2.2.1.length ≤ bn) ∧ (kA.C w gA x.2.2.2.2.2.2.2.2.2.1.length x.2.2.2.2.2.2.2.2.2.1 ∧ x.2.2.2.2.2.2.2.2.2.1.length ≤ gn) ∧ (kO.C w oA x.2.2.2.2.2.2.2.2.2.2.1.length x.2.2.2.2.2.2.2.2.2.2.1 ∧ x.2.2.2.2.2.2.2.2.2.2.1.length ≤ on) := by
  obtain ⟨_, _, rfl, rfl, _, _, rfl, rfl, _, _, rfl, rfl, _, _, rfl, rfl, _, _, rfl, rfl, _, _, rfl, ⟨wA, wn, rfl, hw, hwC⟩, _, _, rfl, ⟨cA, cn, rfl, hc, hcC⟩, _, _, rfl, rfl, _, _, rfl, ⟨bA, bn, rfl, hb, hbC⟩, _, _, rfl, ⟨gA, gn, rfl, hg, hgC⟩, _, _, rfl, ⟨oA, on, rfl, ho, hoC⟩, rfl⟩ := h
  exact ⟨wA, wn, cA, cn, bA, bn, gA, gn, oA, on, rfl, ⟨hwC, hw⟩, ⟨hcC, hc⟩, ⟨hbC, hb⟩, ⟨hgC, hg⟩, ⟨hoC, ho⟩⟩
end Go.Proofs.YtihdlalbgdighaaDoor.QV
/- slices.Grow of nil, slices.Concat of two lists of whole numbers: a list of one's own. By sed out of XClone. -/
namespace Go.Proofs.YtihdlalbgdighaaDoor.QV
open Go.RowKit Go.Proofs.YtihdlalbgdighaaDoorW.PrintWords
set_option linter.unusedVariables false
set_option linter.unusedSimpArgs false

set_option maxHeartbeats 1000000 in
theorem growI_nil (n : Nat) (w : World) (hb : n * 8 ≤ 140737488355328) :
    Calls Tryd.prog 90 #[.slice none 0 0, .int .i64 n] w fun e w' => ∃ v, e = .returned v ∧ kI.R 3 w' w.heap.size (fun _ => True) v [] ∧ Below w.heap.size w w' := by
  by_cases h0 : n = 0
  · subst h0
    go_enter Tryd.func90, Tryd.ntmps90
    go_wp2
    go_ret
    exact ⟨_, rfl, Kd.R_nil _ _ _ _ _, Below.refl _ _⟩
  · have hp : 0 < n := by omega
    go_enter Tryd.func90, Tryd.ntmps90
    go_wp2_with (at_builtin; refine Kd.R_append_zeros kI (w0 := w) w.heap.size rfl (.tmp 20) (.tmp 21) 23 3 3 _ 8 rfl Tryd.underlying23 Tryd.underlying3 infoI rfl (by decide) (by decide) (.slice none 0 0) [] (0 : Int) (n : Int) (fun _ => True) rfl rfl (rfl) (fun _ _ => trivial) (Kd.R_nil _ _ _ _ _) (by omega) (Below.refl _ _) (Nat.le_refl _) (by simp; omega) ?_; intro v1 w1 hv1 hb1 hg1 hat1; obtain ⟨g1, cap1, rfl, hg1b, hg1l, cells1, hcells1⟩ := Kd.R_form hv1 (by simp; omega); clear hg1 hat1)
    go_ret
    exact ⟨_, rfl, by simpa using Kd.R_take hv1 (Nat.zero_le _), hb1⟩

set_option maxHeartbeats 2000000 in
/-- The two rows, one behind the other. -/
theorem concatI2 (A : Option Addr) (a : List Int) (ca : Nat) (B : Option Addr) (b : List Int) (cb : Nat) (g : Nat) (w : World) (hg : w.heap[g]? = some (.cells #[.slice A a.length ca, .slice B b.length cb] 23 (0, 0)))
    (hA : kI.C w A a.length a) (hB : kI.C w B b.length b) (hb : (a.length + b.length) * 8 ≤ 140737488355328) :
    Calls Tryd.prog 71 #[.slice (some ⟨g, 0, none⟩) 2 2] w fun e w' => ∃ v, e = .returned v ∧ kI.R 3 w' w.heap.size (fun _ => True) v (a ++ b) ∧ Below w.heap.size w w' := by
  have c0 : w.cell? ⟨g, 0, none⟩ = some (.slice A a.length ca) := blk_cell hg 0
  have c1 : w.cell? ⟨g, 1, none⟩ = some (.slice B b.length cb) := blk_cell hg 1
  have hab : (a.length : Int) + (b.length : Int) = ((a.length + b.length : Nat) : Int) := by omega
  go_enter Tryd.func71, Tryd.ntmps71
  go_wp2_with fail
  have HAB := Lib.hid hab
  clear hab
  go_loop [3, 11] (fun s i => ∃ k : Nat, k ≤ 2 ∧ i = .int .i64 k ∧ s = .int .i64 (if k = 0 then 0 else if k = 1 then (a.length : Int) else ((a.length + b.length : Nat) : Int))) (fun _ i => 2 - (intOf i).toNat)
  case atStart => exact ⟨0, by omega, rfl, rfl⟩
  case round =>
    obtain ⟨k, hk, rfl, rfl⟩ := hrel
    rcases (by omega : k = 0 ∨ k = 1 ∨ k = 2) with rfl | rfl | rfl
    · go_wp2
      go_round
      case rel => exact ⟨1, by omega, by go_num, by simp⟩
      case measure => simp [intOf]
    · go_wp2
      go_round
      case rel => exact ⟨2, by omega, by go_num, by simp⟩
      case measure => simp [intOf]
    · simp only [show ¬ (2 = 0) from by omega, show ¬ (2 = 1) from by omega, if_false]
      go_wp2_with fail
      refine (growI_nil (a.length + b.length) w hb).mono ?_
      rintro e w1 ⟨v0, rfl, hv0, hb0⟩
      have c0 : w1.cell? ⟨g, 0, none⟩ = some (.slice A a.length ca) := blk_cell (blk_below hg hb0) 0
      have c1 : w1.cell? ⟨g, 1, none⟩ = some (.slice B b.length cb) := blk_cell (blk_below hg hb0) 1
      go_wp2_with fail
      go_loopw [6, 27] (fun v i wr => ∃ k : Nat, k ≤ 2 ∧ i = .int .i64 k ∧ kI.R 3 wr w.heap.size (fun _ => True) v (if k = 0 then [] else if k = 1 then a else a ++ b) ∧ Below w.heap.size w wr) (fun _ i _ => 2 - (intOf i).toNat)
      case atStart => exact ⟨0, by omega, rfl, by simpa using hv0, hb0⟩
      case round =>
        obtain ⟨k, hk, rfl, hv, hB2⟩ := hrel
        have d0 : wr.cell? ⟨g, 0, none⟩ = some (.slice A a.length ca) := blk_cell (blk_below hg hB2) 0
        have d1 : wr.cell? ⟨g, 1, none⟩ = some (.slice B b.length cb) := blk_cell (blk_below hg hB2) 1
        rcases (by omega : k = 0 ∨ k = 1 ∨ k = 2) with rfl | rfl | rfl
        · simp only [if_true] at hv
          go_wp2_with (at_builtin; refine Kd.R_append_rows kI (w0 := w) w.heap.size rfl (.tmp 31) (.tmp 32) 23 3 _ 8 rfl Tryd.underlying23 infoI rfl (by decide) (by decide) u6 [] a A a.length ca (fun _ => True) (fun _ => False) rfl rfl hv (Kd.C_below hA hB2) (fun x cs h => kI_KM x cs h) (fun _ h => h.elim) (fun _ _ => trivial) hB2 hB2.size (by first | omega | (simp; omega)) ?_; intro v1 w4 hv1 hB7 hg7 hat7; clear hg7 hat7)
          go_roundw
          case rel => exact ⟨1, by omega, by go_num, by simpa using hv1, hB7⟩
          case measure => simp [intOf]
        · simp only [show ¬ (1 = 0) from by omega, if_false, if_true] at hv
          go_wp2_with (at_builtin; refine Kd.R_append_rows kI (w0 := w) w.heap.size rfl (.tmp 31) (.tmp 32) 23 3 _ 8 rfl Tryd.underlying23 infoI rfl (by decide) (by decide) u6 a b B b.length cb (fun _ => True) (fun _ => False) rfl rfl hv (Kd.C_below hB hB2) (fun x cs h => kI_KM x cs h) (fun _ h => h.elim) (fun _ _ => trivial) hB2 hB2.size (by first | omega | (simp; omega)) ?_; intro v1 w4 hv1 hB7 hg7 hat7; clear hg7 hat7)
          go_roundw
          case rel => exact ⟨2, by omega, by go_num, by simpa using hv1, hB7⟩
          case measure => simp [intOf]
        · simp only [show ¬ (2 = 0) from by omega, show ¬ (2 = 1) from by omega, if_false] at hv
          go_wp2
          go_ret
          exact ⟨_, rfl, hv, hB2⟩
end Go.Proofs.YtihdlalbgdighaaDoor.QV
/- What plan.covers and plan.ways tell. -/
namespace Go.Proofs.YtihdlalbgdighaaDoor.QV
open Go.RowKit Go.Proofs.YtihdlalbgdighaaDoorW.PrintWords Go.Proofs.YtihdlalbgdighaaDoor.Op
set_option linter.unusedVariables false
set_option linter.unusedSimpArgs false
abbrev Tbl : Type := S77
abbrev Pj : Type := S80
abbrev zT : Tbl := z77
abbrev zP : Pj := z80
abbrev kTb : Kd Tbl := k77
abbrev kPj : Kd Pj := k80
abbrev kPl : Kd (Int × Int) := Kd.pair (Kd.int .i64) (Kd.int .i64)
theorem infoPl : (Tryd.prog.info? 43).map (fun i => (i.zero, i.size, i.bytes)) = some (some (.agg #[.int .i64 0, .int .i64 0]), 2, 16) := by kernel_rfl
theorem kPl_open {w : World} {x : Int × Int} {cs : List Value} (h : kPl.K w x cs) : cs = [.int .i64 x.1, .int .i64 x.2] := by
  obtain ⟨_, _, rfl, rfl, rfl⟩ := h; rfl
theorem kPl_M (w : World) (base : Nat) (ok : Nat → Prop) (x : Int × Int) : kPl.M w base ok x [.int .i64 x.1, .int .i64 x.2] := ⟨[_], [_], rfl, rfl, rfl⟩
theorem kPl_KM {w W : World} {base : Nat} {ok : Nat → Prop} (x : Int × Int) (cs : List Value) (h : kPl.K w x cs) : kPl.M W base ok x cs := by
  rw [kPl_open h]; exact kPl_M _ _ _ _
theorem dropI_get (a : List Int) (i : Nat) (h : i < a.length) : a.drop i = a.getD i 0 :: a.drop (i + 1) := by
  rw [List.drop_eq_getElem_cons h, List.getD_eq_getElem?_getD, List.getElem?_eq_getElem h]; rfl
theorem index_loop (l : List Int) (x : Int) (hm : l.length ≤ 9223372036854775807) : ∀ (d i : Nat), i + d = l.length → ∃ r : Int, Ev (fun k => slices_Index_int_int.l0 k l x (l.length : Int) (i : Int)) r ∧ (0 ≤ r ↔ x ∈ l.drop i) := by
  intro d
  induction d with
  | zero =>
    intro i hi
    refine ⟨-1, Ev.step (f := fun _ => some (-1)) (fun k => ?_) (Ev.now _), ?_⟩
    · simp only [slices_Index_int_int.l0]
      rw [if_neg (by omega)]
    · rw [List.drop_of_length_le (by omega)]; simp
  | succ d ih =>
    intro i hi
    have hw : wrap64 ((i : Int) + 1) = ((i + 1 : Nat) : Int) := by unfold wrap64; omega
    have hrd : rd l (i : Int) = l.getD i 0 := rfl
    obtain ⟨r, hr, hiff⟩ := ih (i + 1) (by omega)
    have hdg := dropI_get l i (by omega)
    generalize l.getD i 0 = y at *
    by_cases hxy : x = y
    · refine ⟨(i : Int), Ev.step (f := fun _ => some (i : Int)) (fun k => ?_) (Ev.now _), ?_⟩
      · simp only [slices_Index_int_int.l0, hrd]
        rw [if_pos (by omega), if_pos (by omega), if_pos (by omega), if_pos hxy]
      · rw [hdg, hxy]; simp
    · refine ⟨r, Ev.step (fun k => ?_) hr, ?_⟩
      · simp only [slices_Index_int_int.l0, hrd, hw]
        rw [if_pos (by omega), if_pos (by omega), if_pos (by omega), if_neg hxy]
      · rw [hiff, hdg, List.mem_cons]
        exact ⟨fun h => .inr h, fun h => h.resolve_left hxy⟩
theorem contains_ev (l : List Int) (x : Int) (hm : l.length ≤ 9223372036854775807) : Ev (fun k => slices_Contains_int_int.f k l x) (decide (x ∈ l)) := by
  obtain ⟨r, hr, hiff⟩ := index_loop l x hm l.length 0 (by omega)
  rw [List.drop_zero] at hiff
  have h : Ev (fun k => (slices_Index_int_int.f k l x).bind fun t => some (decide (t ≥ 0))) (decide (x ∈ l)) := by
    refine Ev.bind (g := fun k => slices_Index_int_int.f k l x) (a := r) hr ?_
    have : decide (r ≥ 0) = decide (x ∈ l) := by
      by_cases hx : x ∈ l
      · rw [decide_eq_true hx, decide_eq_true (hiff.2 hx)]
      · rw [decide_eq_false hx, decide_eq_false (fun h => hx (hiff.1 h))]
    rw [this]
    exact Ev.now _
  exact h
/-- Some columns are all of so many. -/
def coversB (n : Nat) (l : List Int) : Bool := (List.range n).all (fun i => decide ((i : Int) ∈ l))
theorem covers_loop (l : List Int) (n : Nat) (hm : l.length ≤ 9223372036854775807) (hn : n ≤ 9223372036854775807) : ∀ (d i : Nat), i + d = n → Ev (fun k => plan_covers.l0 k l (n : Int) (i : Int)) ((List.range' i d).all (fun i => decide ((i : Int) ∈ l))) := by
  intro d
  induction d with
  | zero =>
    intro i hi
    refine Ev.step (f := fun _ => some true) (fun k => ?_) (Ev.now _)
    simp only [plan_covers.l0]
    rw [if_neg (by omega)]
  | succ d ih =>
    intro i hi
    have hw : wrap64 ((i : Int) + 1) = ((i + 1 : Nat) : Int) := by unfold wrap64; omega
    have hih := ih (i + 1) (by omega)
    refine Ev.step (f := fun k => (slices_Contains_int_int.f k l (i : Int)).bind fun t => if t = true then plan_covers.l0 k l (n : Int) ((i + 1 : Nat) : Int) else some false) (fun k => ?_) ?_
    · simp only [plan_covers.l0, hw]
      rw [if_pos (by omega)]
    · refine (contains_ev l i hm).bind ?_
      rw [List.range'_succ, List.all_cons]
      cases hd : decide ((i : Int) ∈ l)
      · simp only [Bool.false_eq_true, if_false, Bool.false_and]
        exact Ev.now _
      · simp only [if_true, Bool.true_and]
        exact hih
theorem covers_f (nm : ByteArray) (cols : List S101) (l : List Int) (hm : l.length ≤ 9223372036854775807) (hn : cols.length ≤ 9223372036854775807) : ∃ k, plan_covers.f k nm cols l = some (coversB cols.length l) := by
  have h := covers_loop l cols.length hm hn cols.length 0 (by omega)
  unfold coversB
  rw [List.range_eq_range']
  exact h.rounds
def covP (t : Tbl) (p : Pj) : Bool := coversB t.f1.length p.f2
def wholeB (t : Tbl) (tb : Int) (ps : List Pj) (i : Nat) : Bool := decide ((ps.getD i zP).f1 = tb) && covP t (ps.getD i zP)
def firstB (t : Tbl) (tb : Int) (ps : List Pj) (i : Nat) : Bool := decide ((ps.getD i zP).f1 = tb) && !covP t (ps.getD i zP)
def pairB (t : Tbl) (tb : Int) (ps : List Pj) (i k : Nat) : Bool := firstB t tb ps k && coversB t.f1.length ((ps.getD i zP).f2 ++ (ps.getD k zP).f2)
def wholeL (t : Tbl) (tb : Int) (ps : List Pj) (i : Nat) : List (Int × Int) := ((List.range i).filter (wholeB t tb ps)).map (fun (i : Nat) => ((i : Int), (-1 : Int)))
def pairAt (t : Tbl) (tb : Int) (ps : List Pj) (i k : Nat) : List (Int × Int) := ((List.range' (i + 1) (k - (i + 1))).filter (pairB t tb ps i)).map (fun (k : Nat) => ((i : Int), (k : Int)))
def pairL (t : Tbl) (tb : Int) (ps : List Pj) (i : Nat) : List (Int × Int) := ((List.range i).filter (firstB t tb ps)).flatMap (fun i => pairAt t tb ps i ps.length)
def waysL (ts : List Tbl) (ps : List Pj) (tb : Int) : List (Int × Int) := if tb < 0 ∨ (ts.length : Int) ≤ tb then [] else wholeL (ts.getD tb.toNat zT) tb ps ps.length ++ pairL (ts.getD tb.toNat zT) tb ps ps.length
theorem wholeL_snoc (t : Tbl) (tb : Int) (ps : List Pj) (i : Nat) : wholeL t tb ps (i + 1) = if wholeB t tb ps i then wholeL t tb ps i ++ [((i : Int), -1)] else wholeL t tb ps i := by
  unfold wholeL
  rw [List.range_succ, List.filter_append, List.filter_cons]
  split <;> simp
theorem pairL_snoc (t : Tbl) (tb : Int) (ps : List Pj) (i : Nat) : pairL t tb ps (i + 1) = if firstB t tb ps i then pairL t tb ps i ++ pairAt t tb ps i ps.length else pairL t tb ps i := by
  unfold pairL
  rw [List.range_succ, List.filter_append, List.filter_cons]
  split <;> simp
theorem pairAt_snoc (t : Tbl) (tb : Int) (ps : List Pj) (i k : Nat) (h : i + 1 ≤ k) : pairAt t tb ps i (k + 1) = if pairB t tb ps i k then pairAt t tb ps i k ++ [((i : Int), (k : Int))] else pairAt t tb ps i k := by
  unfold pairAt
  have e : k + 1 - (i + 1) = (k - (i + 1)) + 1 := by omega
  have e2 : i + 1 + (k - (i + 1)) = k := by omega
  rw [e, List.range'_concat, Nat.one_mul, e2, List.filter_append, List.filter_cons]
  split <;> simp
theorem pairAt_len (t : Tbl) (tb : Int) (ps : List Pj) (i k : Nat) : (pairAt t tb ps i k).length ≤ k := by
  unfold pairAt
  rw [List.length_map]
  have := List.length_filter_le (pairB t tb ps i) (List.range' (i + 1) (k - (i + 1)))
  rw [List.length_range'] at this
  omega
theorem pairL_len (t : Tbl) (tb : Int) (ps : List Pj) : ∀ (i : Nat), (pairL t tb ps i).length ≤ i * ps.length
  | 0 => by simp [pairL]
  | i + 1 => by
    have h := pairL_len t tb ps i
    have h2 := pairAt_len t tb ps i ps.length
    rw [pairL_snoc, Nat.succ_mul]
    split
    · rw [List.length_append]; omega
    · omega
theorem wholeL_len (t : Tbl) (tb : Int) (ps : List Pj) (i : Nat) : (wholeL t tb ps i).length ≤ i := by
  unfold wholeL
  rw [List.length_map]
  have := List.length_filter_le (wholeB t tb ps) (List.range i)
  rw [List.length_range] at this
  exact this
end Go.Proofs.YtihdlalbgdighaaDoor.QV
/- plan.ways, walked. -/
namespace Go.Proofs.YtihdlalbgdighaaDoor.QV
open Go.RowKit Go.Proofs.YtihdlalbgdighaaDoorW.PrintWords Go.Proofs.YtihdlalbgdighaaDoor.SeqW Go.Proofs.YtihdlalbgdighaaDoor.Op
set_option linter.unusedVariables false
set_option linter.unusedSimpArgs false
set_option maxRecDepth 100000
attribute [local go_sem] Oper.semAt_some
theorem btrW {a b c : World} (h : Below a.heap.size a b) (k : Below b.heap.size b c) : Below a.heap.size a c := h.trans (k.mono h.size)
theorem kPj_at {w : World} {A : Option Addr} {ps : List Pj} (h : kPj.C w A ps.length ps) (i : Nat) (hi : i < ps.length) : ∃ ad A2 c2 A3 c3, A = some ad ∧ w.cell? (ad.add (i * 6)) = some (.string (ps.getD i zP).f0) ∧ w.cell? ⟨(ad.add (i * 6)).block, (ad.add (i * 6)).off + 1, none⟩ = some (.int .i64 (ps.getD i zP).f1) ∧ w.cell? ⟨(ad.add (i * 6)).block, (ad.add (i * 6)).off + 2, none⟩ = some (.slice A2 (ps.getD i zP).f2.length c2) ∧ w.cell? ⟨(ad.add (i * 6)).block, (ad.add (i * 6)).off + 3, none⟩ = some (.slice A3 (ps.getD i zP).f3.length c3) ∧ w.cell? ⟨(ad.add (i * 6)).block, (ad.add (i * 6)).off + 4, none⟩ = some (.int .i64 (ps.getD i zP).f4) ∧ w.cell? ⟨(ad.add (i * 6)).block, (ad.add (i * 6)).off + 5, none⟩ = some (.int .i64 (ps.getD i zP).f5) ∧ (ps.getD i zP).f2.length ≤ c2 ∧ kI.C w A2 (ps.getD i zP).f2.length (ps.getD i zP).f2 := by
  obtain ⟨ad, c, e, _, hK, hc0⟩ := Kd.C_get h zP i (by omega) (by omega)
  have hc : ∀ j u, c[j]? = some u → w.cell? (ad.add (i * 6 + j)) = some u := hc0
  obtain ⟨A2, c2, A3, c3, rfl, l2, g2, l3, g3⟩ := k80_open hK
  exact ⟨ad, A2, c2, A3, c3, e, hc 0 _ rfl, by rw [← add_field _ _ 1 (by omega)]; exact hc 1 _ rfl, by rw [← add_field _ _ 2 (by omega)]; exact hc 2 _ rfl, by rw [← add_field _ _ 3 (by omega)]; exact hc 3 _ rfl, by rw [← add_field _ _ 4 (by omega)]; exact hc 4 _ rfl, by rw [← add_field _ _ 5 (by omega)]; exact hc 5 _ rfl, l2, g2⟩
theorem kTb_at {w : World} {A : Option Addr} {ts : List Tbl} (h : kTb.C w A ts.length ts) (i : Nat) (hi : i < ts.length) : ∃ ad A1 c1, A = some ad ∧ w.cell? (ad.add (i * 2)) = some (.string (ts.getD i zT).f0) ∧ w.cell? ⟨(ad.add (i * 2)).block, (ad.add (i * 2)).off + 1, none⟩ = some (.slice A1 (ts.getD i zT).f1.length c1) ∧ (ts.getD i zT).f1.length ≤ c1 ∧ Kd.C k101 w A1 (ts.getD i zT).f1.length (ts.getD i zT).f1 := by
  obtain ⟨ad, c, e, _, hK, hc0⟩ := Kd.C_get h zT i (by omega) (by omega)
  have hc : ∀ j u, c[j]? = some u → w.cell? (ad.add (i * 2 + j)) = some u := hc0
  obtain ⟨A1, c1, rfl, l1, g1⟩ := k77_open hK
  exact ⟨ad, A1, c1, e, hc 0 _ rfl, by rw [← add_field _ _ 1 (by omega)]; exact hc 1 _ rfl, l1, g1⟩
set_option maxHeartbeats 8000000 in
theorem ways_is (n0 n1 n2 : Int) (TA : Option Addr) (tc : Nat) (ts : List Tbl) (PA : Option Addr) (pc : Nat) (ps : List Pj) (tb : Int) (w : World)
    (hT : kTb.C w TA ts.length ts) (hTc : ts.length ≤ tc) (hP : kPj.C w PA ps.length ps) (hPc : ps.length ≤ pc) (np : ps.length ≤ 1048576) (nq : ∀ p ∈ ps, p.f2.length ≤ 1048576) :
    Calls Tryd.prog 34 #[.agg #[.int .i64 n0, .int .i64 n1, .int .i64 n2, .slice TA ts.length tc, .slice PA ps.length pc], .int .i64 tb] w fun e w' => ∃ v, e = .returned v ∧ kPl.R 43 w' w.heap.size (fun _ => True) v (waysL ts ps tb) ∧ Below w.heap.size w w' := by
  have hmT := hT.2.1
  have hmP := hP.2.1
  obtain ⟨WL, hWL⟩ : ∃ WL, waysL ts ps tb = WL := ⟨_, rfl⟩
  rw [hWL]
  go_enter Tryd.func34, Tryd.ntmps34
  by_cases h1 : tb < 0
  · obtain rfl : [] = WL := by rw [← hWL]; unfold waysL; rw [if_pos (.inl h1)]
    go_wp2_with fail
    go_ret
    exact ⟨_, rfl, Kd.R_nil _ _ _ _ _, below_alloc (Below.refl _ _) _⟩
  by_cases h2 : (ts.length : Int) ≤ tb
  · obtain rfl : [] = WL := by rw [← hWL]; unfold waysL; rw [if_pos (.inr h2)]
    go_wp2_with fail
    go_ret
    exact ⟨_, rfl, Kd.R_nil _ _ _ _ _, below_alloc (Below.refl _ _) _⟩
  obtain ⟨j, rfl⟩ : ∃ j : Nat, tb = (j : Int) := ⟨tb.toNat, by omega⟩
  have hj : j < ts.length := by omega
  have hjz : (j : Int) < (ts.length : Int) := by omega
  obtain ⟨td, A1, c1, htd, t0, t1, hle1, hC1⟩ := kTb_at hT j hj
  have hWL2 : WL = wholeL (ts.getD j zT) (j : Int) ps ps.length ++ pairL (ts.getD j zT) (j : Int) ps ps.length := by
    rw [← hWL]; unfold waysL; rw [if_neg (by omega), Int.toNat_natCast]
  generalize ts.getD j zT = T at *
  have HWL := Lib.hid hWL2
  have hmC := hC1.2.1
  clear hWL hWL2
  subst htd
  obtain ⟨nm, cols⟩ := T
  simp only at t0 t1 hle1 hC1 hmC
  have t0' := pw_cell_below (below_alloc (Below.refl w.heap.size w) (.cells #[.int .i64 n0, .int .i64 n1, .int .i64 n2, .slice (some td) ts.length tc, .slice PA ps.length pc] 40)) t0
  have t1' := pw_cell_below (below_alloc (Below.refl w.heap.size w) (.cells #[.int .i64 n0, .int .i64 n1, .int .i64 n2, .slice (some td) ts.length tc, .slice PA ps.length pc] 40)) t1
  go_wp2_with fail
  obtain ⟨w1, hw1⟩ : ∃ w1, (w.alloc (.cells #[.int .i64 n0, .int .i64 n1, .int .i64 n2, .slice (some td) ts.length tc, .slice PA ps.length pc] 40)).alloc (.cells #[.string nm, .slice A1 cols.length c1] 77) = w1 := ⟨_, rfl⟩
  rw [hw1]
  have hb1 : Below w.heap.size w w1 := by rw [← hw1]; exact below_alloc (below_alloc (Below.refl _ _) _) _
  have gc : w1.heap[w.heap.size]? = some (.cells #[.int .i64 n0, .int .i64 n1, .int .i64 n2, .slice (some td) ts.length tc, .slice PA ps.length pc] 40 (0, 0)) := by rw [← hw1]; exact blk_alloc (blk_new _ _) _
  have gt : w1.heap[w.heap.size + 1]? = some (.cells #[.string nm, .slice A1 cols.length c1] 77 (0, 0)) := by
    have := blk_new (w.alloc (.cells #[.int .i64 n0, .int .i64 n1, .int .i64 n2, .slice (some td) ts.length tc, .slice PA ps.length pc] 40)) (.cells #[.string nm, .slice A1 cols.length c1] 77)
    rw [World.size_alloc] at this
    rw [← hw1]; exact this
  clear hw1 t0' t1' t0 t1
  have hbox : ∀ V, Below w1.heap.size w1 V → V.cell? ⟨w.heap.size, 4, none⟩ = some (.slice PA ps.length pc) ∧ V.cell? ⟨w.heap.size + 1, 0, none⟩ = some (.string nm) ∧ V.cell? ⟨w.heap.size + 1, 1, none⟩ = some (.slice A1 cols.length c1) := fun V hV => ⟨blk_cell (blk_below gc hV) 4, blk_cell (blk_below gt hV) 0, blk_cell (blk_below gt hV) 1⟩
  have HBOX := Lib.hid hbox
  clear hbox gc gt
  have HT := Lib.hid hT
  clear hT
  obtain ⟨T, hTT⟩ : ∃ T : Tbl, (⟨nm, cols⟩ : Tbl) = T := ⟨_, rfl⟩
  have hcov : ∀ p : Pj, covP T p = coversB cols.length p.f2 := fun p => by rw [← hTT]; rfl
  have hpr : ∀ i k, pairB T (j : Int) ps i k = (firstB T (j : Int) ps k && coversB cols.length ((ps.getD i zP).f2 ++ (ps.getD k zP).f2)) := fun i k => by rw [← hTT]; rfl
  have HDEF := Lib.hid (And.intro hcov hpr)
  have hwl := HWL.out
  rw [hTT] at hwl
  have HWL := Lib.hid hwl
  clear hwl hTT hcov hpr
  go_loopw [6, 7, 29] (fun v6 v7 iv wr => ∃ (i : Nat), iv = .int .i64 (i : Int) ∧ i ≤ ps.length ∧ kPl.R 43 wr w1.heap.size (fun k => True ∧ some k ≠ v7.ownBlock) v6 (wholeL T (j : Int) ps i) ∧ kPl.R 43 wr w1.heap.size (fun k => True ∧ some k ≠ v6.ownBlock) v7 (pairL T (j : Int) ps i) ∧ Below w1.heap.size w1 wr) (fun _ _ iv _ => ps.length - (intOf iv).toNat)
  case atStart => exact ⟨0, rfl, Nat.zero_le _, Kd.R_nil _ _ _ _ _, Kd.R_nil _ _ _ _ _, Below.refl _ _⟩
  case round =>
    obtain ⟨i, rfl, hi, H6, H7, hB⟩ := hrel
    obtain ⟨WR, rfl⟩ : ∃ WR, WR = wr := ⟨_, rfl⟩
    have hbw := btrW hb1 hB
    have hz1 := hb1.size
    have hzB := hB.size
    by_cases hlt : i < ps.length
    · have hltz : (i : Int) < (ps.length : Int) := by omega
      obtain ⟨pd, A2, c2, A3, c3, hpd, e0, e1, e2, e3, e4, e5, hle2, hC2w⟩ := kPj_at hP i hlt
      have p0 := pw_cell_below hbw e0
      have p1 := pw_cell_below hbw e1
      have p2 := pw_cell_below hbw e2
      have p3 := pw_cell_below hbw e3
      have p4 := pw_cell_below hbw e4
      have p5 := pw_cell_below hbw e5
      clear e0 e1 e2 e3 e4 e5
      have hws := wholeL_snoc T (j : Int) ps i
      have hps := pairL_snoc T (j : Int) ps i
      have hwB : wholeB T (j : Int) ps i = (decide ((ps.getD i zP).f1 = (j : Int)) && coversB cols.length (ps.getD i zP).f2) := by rw [← HDEF.out.1]; rfl
      have hfB : firstB T (j : Int) ps i = (decide ((ps.getD i zP).f1 = (j : Int)) && !coversB cols.length (ps.getD i zP).f2) := by rw [← HDEF.out.1]; rfl
      have hpB : ∀ k, pairB T (j : Int) ps i k = (firstB T (j : Int) ps k && coversB cols.length ((ps.getD i zP).f2 ++ (ps.getD k zP).f2)) := HDEF.out.2 i
      have hql := nq (ps.getD i zP) (by rw [List.getD_eq_getElem?_getD, List.getElem?_eq_getElem hlt]; exact List.getElem_mem hlt)
      generalize ps.getD i zP = p at *
      obtain ⟨pf0, pf1, pf2, pf3, pf4, pf5⟩ := p
      simp only at p0 p1 p2 p3 p4 p5 hle2 hC2w hwB hfB hpB hql
      have hC2 := Kd.C_below hC2w hbw
      rw [hwB] at hws
      rw [hfB] at hps
      have HPB := Lib.hid hpB
      have HWS := Lib.hid (And.intro hws hps)
      clear hwB hfB hpB hws hps
      subst hpd
      obtain ⟨kc, hkc⟩ := covers_f nm cols pf2 (by omega) hmC
      obtain ⟨w2, hw2⟩ : ∃ w2, WR.alloc (.cells #[.string pf0, .int .i64 pf1, .slice A2 pf2.length c2, .slice A3 pf3.length c3, .int .i64 pf4, .int .i64 pf5] 80) = w2 := ⟨_, rfl⟩
      have hb2 : Below WR.heap.size WR w2 := by rw [← hw2]; exact below_alloc (Below.refl _ _) _
      have hB2 := btrW hB hb2
      have hbw2 := btrW hbw hb2
      have gp : w2.heap[WR.heap.size]? = some (.cells #[.string pf0, .int .i64 pf1, .slice A2 pf2.length c2, .slice A3 pf3.length c3, .int .i64 pf4, .int .i64 pf5] 80 (0, 0)) := by rw [← hw2]; exact blk_new _ _
      have q1 := blk_cell gp 1
      have q2 := blk_cell gp 2
      obtain ⟨b4, b5, b6⟩ := HBOX.out w2 hB2
      have H6' := Kd.R_below H6 hb2
      have H7' := Kd.R_below H7 hb2
      have hC2' := Kd.C_below hC2 hb2
      have hC1' := Kd.C_below hC1 hbw2
      have hwl := wholeL_len T (j : Int) ps i
      have hpl := pairL_len T (j : Int) ps i
      generalize wholeL T (j : Int) ps i = WLi at *
      generalize pairL T (j : Int) ps i = PLi at *
      by_cases hne : pf1 = (j : Int)
      · subst hne
        go_wp2_with fail
        clear hw2
        refine (plan_covers.calls kc nm A1 c1 cols A2 c2 pf2 (coversB cols.length pf2) w2 hC1' hle1 hC2' hle2 hkc).mono ?_
        rintro e w3 ⟨rfl, hb3⟩
        have hB3 := btrW hB2 hb3
        have H6' := Kd.R_below H6' hb3
        have H7' := Kd.R_below H7' hb3
        have hbw3 := btrW hbw2 hb3
        have hz3 := hB3.size
        clear H6 q1 q2 b4 b5 b6 p0 p1 p2 p3 p4 p5
        cases hcv : coversB cols.length pf2 with
        | true =>
          have HCV := Lib.hid hcv
          clear hcv
          go_wp2_with (at_builtin; refine Kd.R_append kPl (w0 := w1) w1.heap.size rfl (.tmp 42) (.tmp 45) 83 43 _ 16 rfl Tryd.underlying83 infoPl rfl (by decide) (by decide) u6 WLi ((i : Int), -1) [.int .i64 (i : Int), .int .i64 (-1)] (fun k => True ∧ some k ≠ u7.ownBlock) (fun _ => False) rfl rfl (kPl_M _ _ _ _) (fun _ h => h.elim) (fun k hk => ⟨trivial, fun e => by have := Kd.R_lt H7' k e.symm; omega⟩) H6' hB3 hz3 (by omega) ?_; intro v1 w4 hv1 hb4 hg4 hat4)
          go_roundw
          case rel =>
            refine ⟨i + 1, by go_num, by omega, ?_, ?_, ?_⟩
            · rw [HWS.out.1, if_pos (by simp [HCV.out])]; exact hv1
            · rw [HWS.out.2, if_neg (by simp [HCV.out])]; exact Kd.R_after H7' hg4 hat4
            · exact hb4
          case measure => simp [intOf]; omega
        | false =>
          have HCV := Lib.hid hcv
          clear hcv
          have H7a : kPl.R 43 w3 w1.heap.size (fun k => k ≠ WR.heap.size ∧ some k ≠ u6.ownBlock) u7 PLi := Kd.R_below (Kd.R_below (Kd.R_mono (Kd.R_bound H7) (fun k hk => ⟨by have := hk.2.2.1; omega, hk.1.2⟩)) hb2) hb3
          have gp3 := blk_below gp hb3
          have hpl0 : pairAt T (j : Int) ps i (i + 1) = [] := by unfold pairAt; simp
          have hbnd : ∀ k, k ≤ ps.length → (PLi ++ pairAt T (j : Int) ps i k).length + 1 ≤ 1099513724930 := fun k hk => by
            have h1 := pairAt_len T (j : Int) ps i k
            have h2 : i * ps.length ≤ 1048576 * 1048576 := Nat.mul_le_mul (by omega) np
            rw [List.length_append]; omega
          have HBND := Lib.hid hbnd
          clear hbnd hpl hwl H7 H7' gp
          have hB3' := hB3
          have hw4' := HBOX.out w3 hB3
          obtain ⟨b4, b5, b6⟩ := hw4'
          have hiw : IntKind.i64.wrap ((i : Int) + 1) = ((i + 1 : Nat) : Int) := by rw [IntKind.wrap_i64]; omega
          go_wp2_with fail
          go_loopw [7, 10] (fun v7 kv V => ∃ (k : Nat), kv = .int .i64 (k : Int) ∧ i + 1 ≤ k ∧ k ≤ ps.length ∧ kPl.R 43 V w1.heap.size (fun k => True ∧ some k ≠ v7.ownBlock) u6 WLi ∧ kPl.R 43 V w1.heap.size (fun k => k ≠ WR.heap.size ∧ some k ≠ u6.ownBlock) v7 (PLi ++ pairAt T (j : Int) ps i k) ∧ V.heap[WR.heap.size]? = some (.cells #[.string pf0, .int .i64 (j : Int), .slice A2 pf2.length c2, .slice A3 pf3.length c3, .int .i64 pf4, .int .i64 pf5] 80 (0, 0)) ∧ Below w1.heap.size w1 V) (fun _ kv _ => ps.length - (intOf kv).toNat)
          case atStart => exact ⟨i + 1, rfl, Nat.le_refl _, by omega, H6', by rw [hpl0, List.append_nil]; exact H7a, gp3, hB3⟩
          case round =>
            obtain ⟨k, rfl, hik, hkn, K6, K7, gpV, hBk⟩ := hrel
            obtain ⟨WQ, rfl⟩ : ∃ WQ, WQ = wr := ⟨_, rfl⟩
            obtain ⟨b4, b5, b6⟩ := HBOX.out WQ hBk
            have hbwk := btrW hb1 hBk
            have hzk := hBk.size
            by_cases hkl : k < ps.length
            · have hkz : (k : Int) < (ps.length : Int) := by omega
              obtain ⟨qd, Q2, d2, Q3, d3, hqd, r0, r1, r2, r3, r4, r5, hqle, hqC⟩ := kPj_at (Kd.C_below hP hbwk) k hkl
              have hqs := pairAt_snoc T (j : Int) ps i k hik
              have hpk := HPB.out k
              have hfk : firstB T (j : Int) ps k = (decide ((ps.getD k zP).f1 = (j : Int)) && !coversB cols.length (ps.getD k zP).f2) := by rw [← HDEF.out.1]; rfl
              have hqq := nq (ps.getD k zP) (by rw [List.getD_eq_getElem?_getD, List.getElem?_eq_getElem hkl]; exact List.getElem_mem hkl)
              rw [hfk] at hpk
              generalize ps.getD k zP = q at *
              obtain ⟨qf0, qf1, qf2, qf3, qf4, qf5⟩ := q
              simp only at r0 r1 r2 r3 r4 r5 hqle hqC hpk hqq
              rw [hpk] at hqs
              have HQS := Lib.hid hqs
              clear hqs hpk hfk
              obtain ⟨kd, hkd⟩ := covers_f nm cols qf2 (by omega) hmC
              obtain ⟨ke, hke⟩ := covers_f nm cols (pf2 ++ qf2) (by rw [List.length_append]; omega) hmC
              have hbk := HBND.out k (by omega)
              have hpd' : (some pd = some qd) := hqd
              injection hpd' with hpd'
              subst hpd'
              obtain ⟨w5, hw5⟩ : ∃ w5, WQ.alloc (.cells #[.string qf0, .int .i64 qf1, .slice Q2 qf2.length d2, .slice Q3 qf3.length d3, .int .i64 qf4, .int .i64 qf5] 80) = w5 := ⟨_, rfl⟩
              have hb5 : Below WQ.heap.size WQ w5 := by rw [← hw5]; exact below_alloc (Below.refl _ _) _
              have gq : w5.heap[WQ.heap.size]? = some (.cells #[.string qf0, .int .i64 qf1, .slice Q2 qf2.length d2, .slice Q3 qf3.length d3, .int .i64 qf4, .int .i64 qf5] 80 (0, 0)) := by rw [← hw5]; exact blk_new _ _
              have gp5 := blk_below gpV hb5
              have hB5 := btrW hBk hb5
              have hbw5 := btrW hbwk hb5
              have K65 := Kd.R_below K6 hb5
              have K75 := Kd.R_below K7 hb5
              have S5 : ∀ V, Below w5.heap.size w5 V → (V.cell? ⟨w.heap.size + 1, 0, none⟩ = some (.string nm) ∧ V.cell? ⟨w.heap.size + 1, 1, none⟩ = some (.slice A1 cols.length c1)) ∧ V.cell? ⟨WR.heap.size, 2, none⟩ = some (.slice A2 pf2.length c2) ∧ V.cell? ⟨WQ.heap.size, 1, none⟩ = some (.int .i64 qf1) ∧ V.cell? ⟨WQ.heap.size, 2, none⟩ = some (.slice Q2 qf2.length d2) := fun V hV =>
                ⟨⟨(HBOX.out V (btrW hB5 hV)).2.1, (HBOX.out V (btrW hB5 hV)).2.2⟩, blk_cell (blk_below gp5 hV) 2, blk_cell (blk_below gq hV) 1, blk_cell (blk_below gq hV) 2⟩
              have hC2k : ∀ V, Below w5.heap.size w5 V → kI.C V A2 pf2.length pf2 := fun V hV => Kd.C_below hC2w (btrW hbw5 hV)
              clear b5 b6 K6 K7
              by_cases hqe : qf1 = (j : Int)
              · subst hqe
                cases hcq : coversB cols.length qf2 with
                | true =>
                  have HCQ := Lib.hid hcq
                  rw [hcq] at hkd
                  clear hcq
                  go_wp2_with fail
                  clear hw5
                  refine (wpIn_wide (n := 0)).1 ?_
                  refine wpIn_region_R (l := 0) 99 (S := fun V => (V.cell? ⟨w.heap.size + 1, 0, none⟩ = some (.string nm) ∧ V.cell? ⟨w.heap.size + 1, 1, none⟩ = some (.slice A1 cols.length c1)) ∧ V.cell? ⟨WR.heap.size, 2, none⟩ = some (.slice A2 pf2.length c2) ∧ V.cell? ⟨WQ.heap.size, 1, none⟩ = some (.int .i64 (j : Int)) ∧ V.cell? ⟨WQ.heap.size, 2, none⟩ = some (.slice Q2 qf2.length d2)) (by kernel_rfl) (S5 _ (below_drew (Below.refl _ _))) (fun hS0 => ?_)
                  refine wpAnyR_take (i := 0) (oi := ⟨some 61, _, _, _, _, _⟩) (v := ?_) (by kernel_rfl) (by kernel_rfl) rfl (by kernel_rfl) (by kernel_rfl) (by kernel_rfl) (fun _ _ _ h => h) (Or.inl ⟨by rfl, ?_⟩) (by assumption) ?_
                  rotate_left
                  · intro w hSw; (try dsimp only at hSw); (try go_split_ands); go_simp; (try (with_reducible rfl))
                  (try simp only [Act.put, List.setIfInBounds_toArray, List.set_cons_zero, List.set_cons_succ])
                  refine wpAnyR_take (i := 1) (oi := ⟨some 62, _, _, _, _, _⟩) (v := ?_) (by kernel_rfl) (by kernel_rfl) rfl (by kernel_rfl) (by kernel_rfl) (by kernel_rfl) (fun _ _ _ h => h) (Or.inl ⟨by rfl, ?_⟩) (by assumption) ?_
                  rotate_left
                  · intro w hSw; (try dsimp only at hSw); (try go_split_ands); go_simp; (try (with_reducible rfl))
                  (try simp only [Act.put, List.setIfInBounds_toArray, List.set_cons_zero, List.set_cons_succ])
                  refine wpAnyR_take (i := 2) (oi := ⟨some 63, _, _, _, _, _⟩) (v := ?_) (by kernel_rfl) (by kernel_rfl) rfl (by kernel_rfl) (by kernel_rfl) (by kernel_rfl) (fun _ _ _ h => h) (Or.inl ⟨by rfl, ?_⟩) (by assumption) ?_
                  rotate_left
                  · intro w hSw; (try dsimp only at hSw); (try go_split_ands); go_simp; (try (with_reducible rfl))
                  (try simp only [Act.put, List.setIfInBounds_toArray, List.set_cons_zero, List.set_cons_succ])
                  refine wpAnyR_take (i := 3) (oi := ⟨some 64, _, _, _, _, _⟩) (v := ?_) (by kernel_rfl) (by kernel_rfl) rfl (by kernel_rfl) (by kernel_rfl) (by kernel_rfl) (fun _ _ _ h => h) (Or.inl ⟨by rfl, ?_⟩) (by assumption) ?_
                  rotate_left
                  · intro w hSw; (try dsimp only at hSw); (try go_split_ands); go_simp; (try (with_reducible rfl))
                  (try simp only [Act.put, List.setIfInBounds_toArray, List.set_cons_zero, List.set_cons_succ])
                  refine wpAnyR_take (i := 4) (oi := ⟨some 65, _, _, _, _, _⟩) (v := ?_) (by kernel_rfl) (by kernel_rfl) rfl (by kernel_rfl) (by kernel_rfl) (by kernel_rfl) (fun _ _ _ h => h) (Or.inl ⟨by rfl, ?_⟩) (by assumption) ?_
                  rotate_left
                  · intro w hSw; (try dsimp only at hSw); (try go_split_ands); go_simp; (try (with_reducible rfl))
                  (try simp only [Act.put, List.setIfInBounds_toArray, List.set_cons_zero, List.set_cons_succ])
                  refine wpAnyR_take (i := 5) (oi := ⟨some 66, _, _, _, _, _⟩) (v := ?_) (by kernel_rfl) (by kernel_rfl) rfl (by kernel_rfl) (by kernel_rfl) (by kernel_rfl) (fun _ _ _ h => h) (Or.inl ⟨by rfl, ?_⟩) (by assumption) ?_
                  rotate_left
                  · intro w hSw; (try dsimp only at hSw); (try go_split_ands); go_simp; (try (with_reducible rfl))
                  (try simp only [Act.put, List.setIfInBounds_toArray, List.set_cons_zero, List.set_cons_succ])
                  refine wpAnyR_take (i := 6) (oi := ⟨some 67, _, _, _, _, _⟩) (v := ?_) (by kernel_rfl) (by kernel_rfl) rfl (by kernel_rfl) (by kernel_rfl) (by kernel_rfl) (fun _ _ _ h => h) (Or.inl ⟨by rfl, ?_⟩) (by assumption) ?_
                  rotate_left
                  · intro w hSw; (try dsimp only at hSw); (try go_split_ands); go_simp; (try (with_reducible rfl))
                  (try simp only [Act.put, List.setIfInBounds_toArray, List.set_cons_zero, List.set_cons_succ])
                  refine wpAnyR_take (i := 7) (oi := ⟨some 68, _, _, _, _, _⟩) (v := ?_) (by kernel_rfl) (by kernel_rfl) rfl (by kernel_rfl) (by kernel_rfl) (by kernel_rfl) (fun _ _ _ h => h) (Or.inl ⟨by rfl, ?_⟩) (by assumption) ?_
                  rotate_left
                  · intro w hSw; (try dsimp only at hSw); (try go_split_ands); go_simp; (try (with_reducible rfl))
                  (try simp only [Act.put, List.setIfInBounds_toArray, List.set_cons_zero, List.set_cons_succ])
                  refine wpAnyR_one (i := 8) (o := ⟨some 69, _, _, _, _, _⟩) (by kernel_rfl) (by kernel_rfl) rfl (fun K hK => ?_)
                  go_simp
                  refine (plan_covers.calls kd nm A1 c1 cols Q2 d2 qf2 true w5.drew (Kd.C_below hC1 (below_drew hbw5)) hle1 (Kd.C_below hqC (below_drew hb5)) hqle hkd).mono ?_
                  rintro e w6 ⟨rfl, hb6⟩
                  have hb6' : Below w5.heap.size w5 w6 := (below_drew (Below.refl _ w5)).trans hb6
                  (try dsimp only)
                  refine hK.out _ _ (.inr (S5 _ hb6')) ?_
                  clear hK K
                  (try simp only [Act.put, List.setIfInBounds_toArray, List.set_cons_zero, List.set_cons_succ])
                  have hS6w := S5 _ hb6'
                  refine wpAnyR_take (i := 9) (oi := ⟨some 70, _, _, _, _, _⟩) (v := ?_) (by kernel_rfl) (by kernel_rfl) rfl (by kernel_rfl) (by kernel_rfl) (by kernel_rfl) (fun _ _ _ h => h) (Or.inl ⟨by rfl, ?_⟩) (by assumption) ?_
                  rotate_left
                  · intro w hSw; (try dsimp only at hSw); (try go_split_ands); go_simp; (try (with_reducible rfl))
                  (try simp only [Act.put, List.setIfInBounds_toArray, List.set_cons_zero, List.set_cons_succ])
                  refine wpAnyR_take (i := 10) (oi := ⟨some 71, _, _, _, _, _⟩) (v := ?_) (by kernel_rfl) (by kernel_rfl) rfl (by kernel_rfl) (by kernel_rfl) (by kernel_rfl) (fun _ _ _ h => h) (Or.inl ⟨by rfl, ?_⟩) (by assumption) ?_
                  rotate_left
                  · intro w hSw; (try dsimp only at hSw); (try go_split_ands); go_simp; (try (with_reducible rfl))
                  (try simp only [Act.put, List.setIfInBounds_toArray, List.set_cons_zero, List.set_cons_succ])
                  refine wpAnyR_take (i := 11) (oi := ⟨some 72, _, _, _, _, _⟩) (v := ?_) (by kernel_rfl) (by kernel_rfl) rfl (by kernel_rfl) (by kernel_rfl) (by kernel_rfl) (fun _ _ _ h => h) (Or.inl ⟨by rfl, ?_⟩) (by assumption) ?_
                  rotate_left
                  · intro w hSw; (try dsimp only at hSw); (try go_split_ands); go_simp; (try (with_reducible rfl))
                  (try simp only [Act.put, List.setIfInBounds_toArray, List.set_cons_zero, List.set_cons_succ])
                  refine wpAnyR_take (i := 12) (oi := ⟨some 73, _, _, _, _, _⟩) (v := undef) (by kernel_rfl) (by kernel_rfl) rfl (by kernel_rfl) (by kernel_rfl) (by kernel_rfl) (fun _ _ _ h => h) (Or.inr ⟨by rfl, rfl⟩) (by assumption) ?_
                  (try simp only [Act.put, List.setIfInBounds_toArray, List.set_cons_zero, List.set_cons_succ])
                  refine wpAnyR_take (i := 13) (oi := ⟨some 74, _, _, _, _, _⟩) (v := undef) (by kernel_rfl) (by kernel_rfl) rfl (by kernel_rfl) (by kernel_rfl) (by kernel_rfl) (fun _ _ _ h => h) (Or.inr ⟨by rfl, rfl⟩) (by assumption) ?_
                  (try simp only [Act.put, List.setIfInBounds_toArray, List.set_cons_zero, List.set_cons_succ])
                  refine wpAnyR_take (i := 14) (oi := ⟨some 75, _, _, _, _, _⟩) (v := undef) (by kernel_rfl) (by kernel_rfl) rfl (by kernel_rfl) (by kernel_rfl) (by kernel_rfl) (fun _ _ _ h => h) (Or.inr ⟨by rfl, rfl⟩) (by assumption) ?_
                  (try simp only [Act.put, List.setIfInBounds_toArray, List.set_cons_zero, List.set_cons_succ])
                  refine wpAnyR_take (i := 15) (oi := ⟨some 76, _, _, _, _, _⟩) (v := undef) (by kernel_rfl) (by kernel_rfl) rfl (by kernel_rfl) (by kernel_rfl) (by kernel_rfl) (fun _ _ _ h => h) (Or.inr ⟨by rfl, rfl⟩) (by assumption) ?_
                  (try simp only [Act.put, List.setIfInBounds_toArray, List.set_cons_zero, List.set_cons_succ])
                  refine wpAnyR_take (i := 16) (oi := ⟨some 77, _, _, _, _, _⟩) (v := undef) (by kernel_rfl) (by kernel_rfl) rfl (by kernel_rfl) (by kernel_rfl) (by kernel_rfl) (fun _ _ _ h => h) (Or.inr ⟨by rfl, rfl⟩) (by assumption) ?_
                  (try simp only [Act.put, List.setIfInBounds_toArray, List.set_cons_zero, List.set_cons_succ])
                  refine wpAnyR_take (i := 17) (oi := ⟨some 78, _, _, _, _, _⟩) (v := undef) (by kernel_rfl) (by kernel_rfl) rfl (by kernel_rfl) (by kernel_rfl) (by kernel_rfl) (fun _ _ _ h => h) (Or.inr ⟨by rfl, rfl⟩) (by assumption) ?_
                  (try simp only [Act.put, List.setIfInBounds_toArray, List.set_cons_zero, List.set_cons_succ])
                  refine wpAnyR_take (i := 18) (oi := ⟨some 79, _, _, _, _, _⟩) (v := undef) (by kernel_rfl) (by kernel_rfl) rfl (by kernel_rfl) (by kernel_rfl) (by kernel_rfl) (fun _ _ _ h => h) (Or.inr ⟨by rfl, rfl⟩) (by assumption) ?_
                  (try simp only [Act.put, List.setIfInBounds_toArray, List.set_cons_zero, List.set_cons_succ])
                  refine wpAnyR_take (i := 19) (oi := ⟨some 80, _, _, _, _, _⟩) (v := undef) (by kernel_rfl) (by kernel_rfl) rfl (by kernel_rfl) (by kernel_rfl) (by kernel_rfl) (fun _ _ _ h => h) (Or.inr ⟨by rfl, rfl⟩) (by assumption) ?_
                  (try simp only [Act.put, List.setIfInBounds_toArray, List.set_cons_zero, List.set_cons_succ])
                  refine wpAnyR_take (i := 20) (oi := ⟨some 81, _, _, _, _, _⟩) (v := ?_) (by kernel_rfl) (by kernel_rfl) rfl (by kernel_rfl) (by kernel_rfl) (by kernel_rfl) (fun _ _ _ h => h) (Or.inl ⟨by rfl, ?_⟩) (by assumption) ?_
                  rotate_left
                  · intro w hSw; (try dsimp only at hSw); (try go_split_ands); go_simp; (try (with_reducible rfl))
                  (try simp only [Act.put, List.setIfInBounds_toArray, List.set_cons_zero, List.set_cons_succ])
                  refine wpAnyR_done (by kernel_rfl) ?_ _
                  go_wp2_with fail
                  go_roundw
                  case rel =>
                    refine ⟨k + 1, by go_num, by omega, by omega, Kd.R_below K65 hb6', ?_, blk_below gp5 hb6', btrW hB5 hb6'⟩
                    rw [HQS.out, if_neg (by simp [HCQ.out])]
                    exact Kd.R_below K75 hb6'
                  case measure => simp [intOf]; omega
                | false =>
                  have HCQ := Lib.hid hcq
                  rw [hcq] at hkd
                  clear hcq
                  go_wp2_with fail
                  clear hw5
                  refine (wpIn_wide (n := 0)).1 ?_
                  refine wpIn_region_R (l := 0) 99 (S := fun V => (V.cell? ⟨w.heap.size + 1, 0, none⟩ = some (.string nm) ∧ V.cell? ⟨w.heap.size + 1, 1, none⟩ = some (.slice A1 cols.length c1)) ∧ V.cell? ⟨WR.heap.size, 2, none⟩ = some (.slice A2 pf2.length c2) ∧ V.cell? ⟨WQ.heap.size, 1, none⟩ = some (.int .i64 (j : Int)) ∧ V.cell? ⟨WQ.heap.size, 2, none⟩ = some (.slice Q2 qf2.length d2)) (by kernel_rfl) (S5 _ (below_drew (Below.refl _ _))) (fun hS0 => ?_)
                  refine wpAnyR_take (i := 0) (oi := ⟨some 61, _, _, _, _, _⟩) (v := ?_) (by kernel_rfl) (by kernel_rfl) rfl (by kernel_rfl) (by kernel_rfl) (by kernel_rfl) (fun _ _ _ h => h) (Or.inl ⟨by rfl, ?_⟩) (by assumption) ?_
                  rotate_left
                  · intro w hSw; (try dsimp only at hSw); (try go_split_ands); go_simp; (try (with_reducible rfl))
                  (try simp only [Act.put, List.setIfInBounds_toArray, List.set_cons_zero, List.set_cons_succ])
                  refine wpAnyR_take (i := 1) (oi := ⟨some 62, _, _, _, _, _⟩) (v := ?_) (by kernel_rfl) (by kernel_rfl) rfl (by kernel_rfl) (by kernel_rfl) (by kernel_rfl) (fun _ _ _ h => h) (Or.inl ⟨by rfl, ?_⟩) (by assumption) ?_
                  rotate_left
                  · intro w hSw; (try dsimp only at hSw); (try go_split_ands); go_simp; (try (with_reducible rfl))
                  (try simp only [Act.put, List.setIfInBounds_toArray, List.set_cons_zero, List.set_cons_succ])
                  refine wpAnyR_take (i := 2) (oi := ⟨some 63, _, _, _, _, _⟩) (v := ?_) (by kernel_rfl) (by kernel_rfl) rfl (by kernel_rfl) (by kernel_rfl) (by kernel_rfl) (fun _ _ _ h => h) (Or.inl ⟨by rfl, ?_⟩) (by assumption) ?_
                  rotate_left
                  · intro w hSw; (try dsimp only at hSw); (try go_split_ands); go_simp; (try (with_reducible rfl))
                  (try simp only [Act.put, List.setIfInBounds_toArray, List.set_cons_zero, List.set_cons_succ])
                  refine wpAnyR_take (i := 3) (oi := ⟨some 64, _, _, _, _, _⟩) (v := ?_) (by kernel_rfl) (by kernel_rfl) rfl (by kernel_rfl) (by kernel_rfl) (by kernel_rfl) (fun _ _ _ h => h) (Or.inl ⟨by rfl, ?_⟩) (by assumption) ?_
                  rotate_left
                  · intro w hSw; (try dsimp only at hSw); (try go_split_ands); go_simp; (try (with_reducible rfl))
                  (try simp only [Act.put, List.setIfInBounds_toArray, List.set_cons_zero, List.set_cons_succ])
                  refine wpAnyR_take (i := 4) (oi := ⟨some 65, _, _, _, _, _⟩) (v := ?_) (by kernel_rfl) (by kernel_rfl) rfl (by kernel_rfl) (by kernel_rfl) (by kernel_rfl) (fun _ _ _ h => h) (Or.inl ⟨by rfl, ?_⟩) (by assumption) ?_
                  rotate_left
                  · intro w hSw; (try dsimp only at hSw); (try go_split_ands); go_simp; (try (with_reducible rfl))
                  (try simp only [Act.put, List.setIfInBounds_toArray, List.set_cons_zero, List.set_cons_succ])
                  refine wpAnyR_take (i := 5) (oi := ⟨some 66, _, _, _, _, _⟩) (v := ?_) (by kernel_rfl) (by kernel_rfl) rfl (by kernel_rfl) (by kernel_rfl) (by kernel_rfl) (fun _ _ _ h => h) (Or.inl ⟨by rfl, ?_⟩) (by assumption) ?_
                  rotate_left
                  · intro w hSw; (try dsimp only at hSw); (try go_split_ands); go_simp; (try (with_reducible rfl))
                  (try simp only [Act.put, List.setIfInBounds_toArray, List.set_cons_zero, List.set_cons_succ])
                  refine wpAnyR_take (i := 6) (oi := ⟨some 67, _, _, _, _, _⟩) (v := ?_) (by kernel_rfl) (by kernel_rfl) rfl (by kernel_rfl) (by kernel_rfl) (by kernel_rfl) (fun _ _ _ h => h) (Or.inl ⟨by rfl, ?_⟩) (by assumption) ?_
                  rotate_left
                  · intro w hSw; (try dsimp only at hSw); (try go_split_ands); go_simp; (try (with_reducible rfl))
                  (try simp only [Act.put, List.setIfInBounds_toArray, List.set_cons_zero, List.set_cons_succ])
                  refine wpAnyR_take (i := 7) (oi := ⟨some 68, _, _, _, _, _⟩) (v := ?_) (by kernel_rfl) (by kernel_rfl) rfl (by kernel_rfl) (by kernel_rfl) (by kernel_rfl) (fun _ _ _ h => h) (Or.inl ⟨by rfl, ?_⟩) (by assumption) ?_
                  rotate_left
                  · intro w hSw; (try dsimp only at hSw); (try go_split_ands); go_simp; (try (with_reducible rfl))
                  (try simp only [Act.put, List.setIfInBounds_toArray, List.set_cons_zero, List.set_cons_succ])
                  refine wpAnyR_one (i := 8) (o := ⟨some 69, _, _, _, _, _⟩) (by kernel_rfl) (by kernel_rfl) rfl (fun K hK => ?_)
                  go_simp
                  refine (plan_covers.calls kd nm A1 c1 cols Q2 d2 qf2 false w5.drew (Kd.C_below hC1 (below_drew hbw5)) hle1 (Kd.C_below hqC (below_drew hb5)) hqle hkd).mono ?_
                  rintro e w6 ⟨rfl, hb6⟩
                  have hb6' : Below w5.heap.size w5 w6 := (below_drew (Below.refl _ w5)).trans hb6
                  (try dsimp only)
                  refine hK.out _ _ (.inr (S5 _ hb6')) ?_
                  clear hK K
                  (try simp only [Act.put, List.setIfInBounds_toArray, List.set_cons_zero, List.set_cons_succ])
                  have hS6w := S5 _ hb6'
                  refine wpAnyR_take (i := 9) (oi := ⟨some 70, _, _, _, _, _⟩) (v := ?_) (by kernel_rfl) (by kernel_rfl) rfl (by kernel_rfl) (by kernel_rfl) (by kernel_rfl) (fun _ _ _ h => h) (Or.inl ⟨by rfl, ?_⟩) (by assumption) ?_
                  rotate_left
                  · intro w hSw; (try dsimp only at hSw); (try go_split_ands); go_simp; (try (with_reducible rfl))
                  (try simp only [Act.put, List.setIfInBounds_toArray, List.set_cons_zero, List.set_cons_succ])
                  refine wpAnyR_take (i := 10) (oi := ⟨some 71, _, _, _, _, _⟩) (v := ?_) (by kernel_rfl) (by kernel_rfl) rfl (by kernel_rfl) (by kernel_rfl) (by kernel_rfl) (fun _ _ _ h => h) (Or.inl ⟨by rfl, ?_⟩) (by assumption) ?_
                  rotate_left
                  · intro w hSw; (try dsimp only at hSw); (try go_split_ands); go_simp; (try (with_reducible rfl))
                  (try simp only [Act.put, List.setIfInBounds_toArray, List.set_cons_zero, List.set_cons_succ])
                  refine wpAnyR_take (i := 11) (oi := ⟨some 72, _, _, _, _, _⟩) (v := ?_) (by kernel_rfl) (by kernel_rfl) rfl (by kernel_rfl) (by kernel_rfl) (by kernel_rfl) (fun _ _ _ h => h) (Or.inl ⟨by rfl, ?_⟩) (by assumption) ?_
                  rotate_left
                  · intro w hSw; (try dsimp only at hSw); (try go_split_ands); go_simp; (try (with_reducible rfl))
                  (try simp only [Act.put, List.setIfInBounds_toArray, List.set_cons_zero, List.set_cons_succ])
                  refine wpAnyR_take (i := 12) (oi := ⟨some 73, _, _, _, _, _⟩) (v := ?_) (by kernel_rfl) (by kernel_rfl) rfl (by kernel_rfl) (by kernel_rfl) (by kernel_rfl) (fun _ _ _ h => h) (Or.inl ⟨by rfl, ?_⟩) (by assumption) ?_
                  rotate_left
                  · intro w hSw; (try dsimp only at hSw); (try go_split_ands); go_simp; (try (with_reducible rfl))
                  (try simp only [Act.put, List.setIfInBounds_toArray, List.set_cons_zero, List.set_cons_succ])
                  refine wpAnyR_take (i := 13) (oi := ⟨some 74, _, _, _, _, _⟩) (v := ?_) (by kernel_rfl) (by kernel_rfl) rfl (by kernel_rfl) (by kernel_rfl) (by kernel_rfl) (fun _ _ _ h => h) (Or.inl ⟨by rfl, ?_⟩) (by assumption) ?_
                  rotate_left
                  · intro w hSw; (try dsimp only at hSw); (try go_split_ands); go_simp; (try (with_reducible rfl))
                  (try simp only [Act.put, List.setIfInBounds_toArray, List.set_cons_zero, List.set_cons_succ])
                  refine wpAnyR_take (i := 14) (oi := ⟨some 75, _, _, _, _, _⟩) (v := ?_) (by kernel_rfl) (by kernel_rfl) rfl (by kernel_rfl) (by kernel_rfl) (by kernel_rfl) (fun _ _ _ h => h) (Or.inl ⟨by rfl, ?_⟩) (by assumption) ?_
                  rotate_left
                  · intro w hSw; (try dsimp only at hSw); (try go_split_ands); go_simp; (try (with_reducible rfl))
                  (try simp only [Act.put, List.setIfInBounds_toArray, List.set_cons_zero, List.set_cons_succ])
                  refine wpAnyR_take (i := 15) (oi := ⟨some 76, _, _, _, _, _⟩) (v := ?_) (by kernel_rfl) (by kernel_rfl) rfl (by kernel_rfl) (by kernel_rfl) (by kernel_rfl) (fun _ _ _ h => h) (Or.inl ⟨by rfl, ?_⟩) (by assumption) ?_
                  rotate_left
                  · intro w hSw; (try dsimp only at hSw); (try go_split_ands); go_simp; (try (with_reducible rfl))
                  (try simp only [Act.put, List.setIfInBounds_toArray, List.set_cons_zero, List.set_cons_succ])
                  refine wpAnyR_take (i := 16) (oi := ⟨some 77, _, _, _, _, _⟩) (v := ?_) (by kernel_rfl) (by kernel_rfl) rfl (by kernel_rfl) (by kernel_rfl) (by kernel_rfl) (fun _ _ _ h => h) (Or.inl ⟨by rfl, ?_⟩) (by assumption) ?_
                  rotate_left
                  · intro w hSw; (try dsimp only at hSw); (try go_split_ands); go_simp; (try (with_reducible rfl))
                  (try simp only [Act.put, List.setIfInBounds_toArray, List.set_cons_zero, List.set_cons_succ])
                  refine wpAnyR_one (i := 17) (o := ⟨some 78, _, _, _, _, _⟩) (by kernel_rfl) (by kernel_rfl) rfl (fun K hK => ?_)
                  go_simp
                  obtain ⟨w7, hw7⟩ : ∃ w7, w6.alloc (.cells #[.slice A2 pf2.length c2, .slice Q2 qf2.length d2] 23) = w7 := ⟨_, rfl⟩
                  rw [hw7]
                  have hb7 : Below w5.heap.size w5 w7 := by rw [← hw7]; exact below_alloc hb6' _
                  have g7 : w7.heap[w6.heap.size]? = some (.cells #[.slice A2 pf2.length c2, .slice Q2 qf2.length d2] 23 (0, 0)) := by rw [← hw7]; exact blk_new _ _
                  clear hw7
                  (try dsimp only)
                  refine hK.out _ _ (.inr (S5 _ hb7)) ?_
                  clear hK K
                  (try simp only [Act.put, List.setIfInBounds_toArray, List.set_cons_zero, List.set_cons_succ])
                  refine wpAnyR_one (i := 18) (o := ⟨some 79, _, _, _, _, _⟩) (by kernel_rfl) (by kernel_rfl) rfl (fun K hK => ?_)
                  go_simp
                  refine (concatI2 A2 pf2 c2 Q2 qf2 d2 w6.heap.size w7 g7 (hC2k _ hb7) (Kd.C_below hqC (btrW hb5 hb7)) (by omega)).mono ?_
                  rintro e w8 ⟨v8, rfl, hR8, hb8⟩
                  obtain ⟨L8, hL8⟩ : ∃ L8, pf2 ++ qf2 = L8 := ⟨_, rfl⟩
                  rw [hL8] at hR8 hke
                  obtain ⟨fb, hfb⟩ : ∃ fb, coversB cols.length L8 = fb := ⟨_, rfl⟩
                  rw [hfb] at hke
                  rw [← hL8] at hfb
                  have HFB := Lib.hid hfb
                  clear hL8 hfb
                  obtain ⟨A8, c8, rfl, hle8, hC8⟩ := Kd.R_reads hR8
                  have hb8' : Below w5.heap.size w5 w8 := btrW hb7 hb8
                  (try dsimp only)
                  refine hK.out _ _ (.inr (S5 _ hb8')) ?_
                  clear hK K
                  (try simp only [Act.put, List.setIfInBounds_toArray, List.set_cons_zero, List.set_cons_succ])
                  refine wpAnyR_one (i := 19) (o := ⟨some 80, _, _, _, _, _⟩) (by kernel_rfl) (by kernel_rfl) rfl (fun K hK => ?_)
                  go_simp
                  refine (plan_covers.calls ke nm A1 c1 cols A8 c8 L8 fb w8 (Kd.C_below hC1 (btrW hbw5 hb8')) hle1 hC8 hle8 hke).mono ?_
                  rintro e w9 ⟨rfl, hb9⟩
                  have hb9' : Below w5.heap.size w5 w9 := btrW hb8' hb9
                  (try dsimp only)
                  refine hK.out _ _ (.inr (S5 _ hb9')) ?_
                  clear hK K
                  (try simp only [Act.put, List.setIfInBounds_toArray, List.set_cons_zero, List.set_cons_succ])
                  have hS9w := S5 _ hb9'
                  refine wpAnyR_take (i := 20) (oi := ⟨some 81, _, _, _, _, _⟩) (v := ?_) (by kernel_rfl) (by kernel_rfl) rfl (by kernel_rfl) (by kernel_rfl) (by kernel_rfl) (fun _ _ _ h => h) (Or.inl ⟨by rfl, ?_⟩) (by assumption) ?_
                  rotate_left
                  · intro w hSw; (try dsimp only at hSw); (try go_split_ands); go_simp; (try (with_reducible rfl))
                  (try simp only [Act.put, List.setIfInBounds_toArray, List.set_cons_zero, List.set_cons_succ])
                  refine wpAnyR_done (by kernel_rfl) ?_ _
                  clear hke hkd
                  have K69 := Kd.R_below K65 hb9'
                  have K79 := Kd.R_below K75 hb9'
                  have gp9 := blk_below gp5 hb9'
                  have hB9 := btrW hB5 hb9'
                  have hz9 := hB9.size
                  cases fb with
                  | true =>
                    obtain ⟨PK, hPK⟩ : ∃ PK, PLi ++ pairAt T (j : Int) ps i k = PK := ⟨_, rfl⟩
                    rw [hPK] at K79 hbk
                    have HPK := Lib.hid hPK
                    clear hPK
                    have HGP := Lib.hid gp9
                    go_wp2_with (at_builtin; refine Kd.R_append kPl (w0 := w1) w1.heap.size rfl (.tmp 82) (.tmp 86) 83 43 _ 16 rfl Tryd.underlying83 infoPl rfl (by decide) (by decide) u7 PK ((i : Int), (k : Int)) [.int .i64 (i : Int), .int .i64 (k : Int)] (fun k => k ≠ WR.heap.size ∧ some k ≠ u6.ownBlock) (fun _ => False) rfl rfl (kPl_M _ _ _ _) (fun _ h => h.elim) (fun k hk => ⟨by have := blk_lt HGP.out; omega, fun e => by have := Kd.R_lt K69 k e.symm; omega⟩) K79 hB9 hz9 (by omega) ?_; intro v1 w10 hv1 hb10 hg10 hat10)
                    go_roundw
                    case rel =>
                      have e1 : PLi ++ pairAt T (j : Int) ps i (k + 1) = PK ++ [((i : Int), (k : Int))] := by
                        rw [HQS.out, if_pos (by simp [HCQ.out, HFB.out]), ← List.append_assoc, HPK.out]
                      have gp10 := blk_grown gp9 hg10 (Kd.R_away K79 (fun k hk => hk.1))
                      have K610 := Kd.R_after K69 hg10 hat10
                      refine ⟨k + 1, by go_num, by omega, by omega, K610, ?_, gp10, hb10⟩
                      rw [e1]; exact hv1
                    case measure => simp [intOf]; omega
                  | false =>
                    go_wp2_with fail
                    go_roundw
                    case rel =>
                      refine ⟨k + 1, by go_num, by omega, by omega, K69, ?_, gp9, hB9⟩
                      rw [HQS.out, if_neg (by simp [HCQ.out, HFB.out])]
                      exact K79
                    case measure => simp [intOf]; omega
              · have hqd : decide (qf1 = (j : Int)) = false := decide_eq_false hqe
                go_wp2_with fail
                clear hw5
                refine (wpIn_wide (n := 0)).1 ?_
                refine wpIn_region_R (l := 0) 99 (S := fun V => (V.cell? ⟨w.heap.size + 1, 0, none⟩ = some (.string nm) ∧ V.cell? ⟨w.heap.size + 1, 1, none⟩ = some (.slice A1 cols.length c1)) ∧ V.cell? ⟨WR.heap.size, 2, none⟩ = some (.slice A2 pf2.length c2) ∧ V.cell? ⟨WQ.heap.size, 1, none⟩ = some (.int .i64 qf1) ∧ V.cell? ⟨WQ.heap.size, 2, none⟩ = some (.slice Q2 qf2.length d2)) (by kernel_rfl) (S5 _ (below_drew (Below.refl _ _))) (fun hS0 => ?_)
                refine wpAnyR_take (i := 0) (oi := ⟨some 61, _, _, _, _, _⟩) (v := ?_) (by kernel_rfl) (by kernel_rfl) rfl (by kernel_rfl) (by kernel_rfl) (by kernel_rfl) (fun _ _ _ h => h) (Or.inl ⟨by rfl, ?_⟩) (by assumption) ?_
                rotate_left
                · intro w hSw; (try dsimp only at hSw); (try go_split_ands); go_simp; (try (with_reducible rfl))
                (try simp only [Act.put, List.setIfInBounds_toArray, List.set_cons_zero, List.set_cons_succ])
                refine wpAnyR_take (i := 1) (oi := ⟨some 62, _, _, _, _, _⟩) (v := ?_) (by kernel_rfl) (by kernel_rfl) rfl (by kernel_rfl) (by kernel_rfl) (by kernel_rfl) (fun _ _ _ h => h) (Or.inl ⟨by rfl, ?_⟩) (by assumption) ?_
                rotate_left
                · intro w hSw; (try dsimp only at hSw); (try go_split_ands); go_simp; (try (with_reducible rfl))
                (try simp only [Act.put, List.setIfInBounds_toArray, List.set_cons_zero, List.set_cons_succ])
                refine wpAnyR_take (i := 2) (oi := ⟨some 63, _, _, _, _, _⟩) (v := ?_) (by kernel_rfl) (by kernel_rfl) rfl (by kernel_rfl) (by kernel_rfl) (by kernel_rfl) (fun _ _ _ h => h) (Or.inl ⟨by rfl, ?_⟩) (by assumption) ?_
                rotate_left
                · intro w hSw; (try dsimp only at hSw); (try go_split_ands); go_simp; (try (with_reducible rfl))
                (try simp only [Act.put, List.setIfInBounds_toArray, List.set_cons_zero, List.set_cons_succ])
                refine wpAnyR_take (i := 3) (oi := ⟨some 64, _, _, _, _, _⟩) (v := .bool false) (by kernel_rfl) (by kernel_rfl) rfl (by kernel_rfl) (by kernel_rfl) (by kernel_rfl) (fun _ _ _ h => h) (Or.inl ⟨by rfl, ?_⟩) (by assumption) ?_
                · intro w hSw; go_simp; (try simp [hqd]); (try simp [hqe])
                (try simp only [Act.put, List.setIfInBounds_toArray, List.set_cons_zero, List.set_cons_succ])
                refine wpAnyR_take (i := 4) (oi := ⟨some 65, _, _, _, _, _⟩) (v := ?_) (by kernel_rfl) (by kernel_rfl) rfl (by kernel_rfl) (by kernel_rfl) (by kernel_rfl) (fun _ _ _ h => h) (Or.inl ⟨by rfl, ?_⟩) (by assumption) ?_
                rotate_left
                · intro w hSw; (try dsimp only at hSw); (try go_split_ands); go_simp; (try (with_reducible rfl))
                (try simp only [Act.put, List.setIfInBounds_toArray, List.set_cons_zero, List.set_cons_succ])
                refine wpAnyR_take (i := 5) (oi := ⟨some 66, _, _, _, _, _⟩) (v := undef) (by kernel_rfl) (by kernel_rfl) rfl (by kernel_rfl) (by kernel_rfl) (by kernel_rfl) (fun _ _ _ h => h) (Or.inr ⟨by rfl, rfl⟩) (by assumption) ?_
                (try simp only [Act.put, List.setIfInBounds_toArray, List.set_cons_zero, List.set_cons_succ])
                refine wpAnyR_take (i := 6) (oi := ⟨some 67, _, _, _, _, _⟩) (v := undef) (by kernel_rfl) (by kernel_rfl) rfl (by kernel_rfl) (by kernel_rfl) (by kernel_rfl) (fun _ _ _ h => h) (Or.inr ⟨by rfl, rfl⟩) (by assumption) ?_
                (try simp only [Act.put, List.setIfInBounds_toArray, List.set_cons_zero, List.set_cons_succ])
                refine wpAnyR_take (i := 7) (oi := ⟨some 68, _, _, _, _, _⟩) (v := undef) (by kernel_rfl) (by kernel_rfl) rfl (by kernel_rfl) (by kernel_rfl) (by kernel_rfl) (fun _ _ _ h => h) (Or.inr ⟨by rfl, rfl⟩) (by assumption) ?_
                (try simp only [Act.put, List.setIfInBounds_toArray, List.set_cons_zero, List.set_cons_succ])
                refine wpAnyR_take (i := 8) (oi := ⟨some 69, _, _, _, _, _⟩) (v := undef) (by kernel_rfl) (by kernel_rfl) rfl (by kernel_rfl) (by kernel_rfl) (by kernel_rfl) (fun _ _ _ h => h) (Or.inr ⟨by rfl, rfl⟩) (by assumption) ?_
                (try simp only [Act.put, List.setIfInBounds_toArray, List.set_cons_zero, List.set_cons_succ])
                refine wpAnyR_take (i := 9) (oi := ⟨some 70, _, _, _, _, _⟩) (v := undef) (by kernel_rfl) (by kernel_rfl) rfl (by kernel_rfl) (by kernel_rfl) (by kernel_rfl) (fun _ _ _ h => h) (Or.inr ⟨by rfl, rfl⟩) (by assumption) ?_
                (try simp only [Act.put, List.setIfInBounds_toArray, List.set_cons_zero, List.set_cons_succ])
                refine wpAnyR_take (i := 10) (oi := ⟨some 71, _, _, _, _, _⟩) (v := ?_) (by kernel_rfl) (by kernel_rfl) rfl (by kernel_rfl) (by kernel_rfl) (by kernel_rfl) (fun _ _ _ h => h) (Or.inl ⟨by rfl, ?_⟩) (by assumption) ?_
                rotate_left
                · intro w hSw; (try dsimp only at hSw); (try go_split_ands); go_simp; (try (with_reducible rfl))
                (try simp only [Act.put, List.setIfInBounds_toArray, List.set_cons_zero, List.set_cons_succ])
                refine wpAnyR_take (i := 11) (oi := ⟨some 72, _, _, _, _, _⟩) (v := ?_) (by kernel_rfl) (by kernel_rfl) rfl (by kernel_rfl) (by kernel_rfl) (by kernel_rfl) (fun _ _ _ h => h) (Or.inl ⟨by rfl, ?_⟩) (by assumption) ?_
                rotate_left
                · intro w hSw; (try dsimp only at hSw); (try go_split_ands); go_simp; (try (with_reducible rfl))
                (try simp only [Act.put, List.setIfInBounds_toArray, List.set_cons_zero, List.set_cons_succ])
                refine wpAnyR_take (i := 12) (oi := ⟨some 73, _, _, _, _, _⟩) (v := undef) (by kernel_rfl) (by kernel_rfl) rfl (by kernel_rfl) (by kernel_rfl) (by kernel_rfl) (fun _ _ _ h => h) (Or.inr ⟨by rfl, rfl⟩) (by assumption) ?_
                (try simp only [Act.put, List.setIfInBounds_toArray, List.set_cons_zero, List.set_cons_succ])
                refine wpAnyR_take (i := 13) (oi := ⟨some 74, _, _, _, _, _⟩) (v := undef) (by kernel_rfl) (by kernel_rfl) rfl (by kernel_rfl) (by kernel_rfl) (by kernel_rfl) (fun _ _ _ h => h) (Or.inr ⟨by rfl, rfl⟩) (by assumption) ?_
                (try simp only [Act.put, List.setIfInBounds_toArray, List.set_cons_zero, List.set_cons_succ])
                refine wpAnyR_take (i := 14) (oi := ⟨some 75, _, _, _, _, _⟩) (v := undef) (by kernel_rfl) (by kernel_rfl) rfl (by kernel_rfl) (by kernel_rfl) (by kernel_rfl) (fun _ _ _ h => h) (Or.inr ⟨by rfl, rfl⟩) (by assumption) ?_
                (try simp only [Act.put, List.setIfInBounds_toArray, List.set_cons_zero, List.set_cons_succ])
                refine wpAnyR_take (i := 15) (oi := ⟨some 76, _, _, _, _, _⟩) (v := undef) (by kernel_rfl) (by kernel_rfl) rfl (by kernel_rfl) (by kernel_rfl) (by kernel_rfl) (fun _ _ _ h => h) (Or.inr ⟨by rfl, rfl⟩) (by assumption) ?_
                (try simp only [Act.put, List.setIfInBounds_toArray, List.set_cons_zero, List.set_cons_succ])
                refine wpAnyR_take (i := 16) (oi := ⟨some 77, _, _, _, _, _⟩) (v := undef) (by kernel_rfl) (by kernel_rfl) rfl (by kernel_rfl) (by kernel_rfl) (by kernel_rfl) (fun _ _ _ h => h) (Or.inr ⟨by rfl, rfl⟩) (by assumption) ?_
                (try simp only [Act.put, List.setIfInBounds_toArray, List.set_cons_zero, List.set_cons_succ])
                refine wpAnyR_take (i := 17) (oi := ⟨some 78, _, _, _, _, _⟩) (v := undef) (by kernel_rfl) (by kernel_rfl) rfl (by kernel_rfl) (by kernel_rfl) (by kernel_rfl) (fun _ _ _ h => h) (Or.inr ⟨by rfl, rfl⟩) (by assumption) ?_
                (try simp only [Act.put, List.setIfInBounds_toArray, List.set_cons_zero, List.set_cons_succ])
                refine wpAnyR_take (i := 18) (oi := ⟨some 79, _, _, _, _, _⟩) (v := undef) (by kernel_rfl) (by kernel_rfl) rfl (by kernel_rfl) (by kernel_rfl) (by kernel_rfl) (fun _ _ _ h => h) (Or.inr ⟨by rfl, rfl⟩) (by assumption) ?_
                (try simp only [Act.put, List.setIfInBounds_toArray, List.set_cons_zero, List.set_cons_succ])
                refine wpAnyR_take (i := 19) (oi := ⟨some 80, _, _, _, _, _⟩) (v := undef) (by kernel_rfl) (by kernel_rfl) rfl (by kernel_rfl) (by kernel_rfl) (by kernel_rfl) (fun _ _ _ h => h) (Or.inr ⟨by rfl, rfl⟩) (by assumption) ?_
                (try simp only [Act.put, List.setIfInBounds_toArray, List.set_cons_zero, List.set_cons_succ])
                refine wpAnyR_take (i := 20) (oi := ⟨some 81, _, _, _, _, _⟩) (v := ?_) (by kernel_rfl) (by kernel_rfl) rfl (by kernel_rfl) (by kernel_rfl) (by kernel_rfl) (fun _ _ _ h => h) (Or.inl ⟨by rfl, ?_⟩) (by assumption) ?_
                rotate_left
                · intro w hSw; (try dsimp only at hSw); (try go_split_ands); go_simp; (try (with_reducible rfl))
                (try simp only [Act.put, List.setIfInBounds_toArray, List.set_cons_zero, List.set_cons_succ])
                refine wpAnyR_done (by kernel_rfl) ?_ _
                go_wp2_with fail
                go_roundw
                case rel =>
                  refine ⟨k + 1, by go_num, by omega, by omega, Kd.R_below K65 (below_drew (Below.refl _ _)), ?_, blk_below gp5 (below_drew (Below.refl _ _)), below_drew hB5⟩
                  rw [HQS.out, if_neg (by simp [hqe])]
                  exact Kd.R_below K75 (below_drew (Below.refl _ _))
                case measure => simp [intOf]; omega
            · obtain rfl : k = ps.length := by omega
              go_wp2_with fail
              go_roundw
              case rel =>
                refine ⟨i + 1, by go_num, by omega, ?_, ?_, hBk⟩
                · rw [HWS.out.1, if_neg (by simp [HCV.out])]; exact K6
                · rw [HWS.out.2, if_pos (by simp [HCV.out])]; exact Kd.R_mono K7 (fun k hk => ⟨trivial, hk.2⟩)
              case measure => simp [intOf]; omega
      · go_wp2_with fail
        go_roundw
        case rel =>
          refine ⟨i + 1, by go_num, by omega, ?_, ?_, hB2⟩
          · rw [HWS.out.1, if_neg (by simp [hne])]; exact H6'
          · rw [HWS.out.2, if_neg (by simp [hne])]; exact H7'
        case measure => simp [intOf]; omega
    · obtain rfl : i = ps.length := by omega
      have hwl := wholeL_len T (j : Int) ps ps.length
      have hpl := pairL_len T (j : Int) ps ps.length
      have hsq : ps.length * ps.length ≤ 1048576 * 1048576 := Nat.mul_le_mul np np
      have hwl2 := HWL.out
      generalize wholeL T (j : Int) ps ps.length = WLi at *
      generalize pairL T (j : Int) ps ps.length = PLi at *
      have HWL2 := Lib.hid hwl2
      clear hwl2
      obtain ⟨A7, c7, rfl, hle7, hC7⟩ := Kd.R_reads H7
      go_wp2_with (at_builtin; refine Kd.R_append_rows kPl (w0 := w1) w1.heap.size rfl (.tmp 89) (.tmp 90) 83 43 _ 16 rfl Tryd.underlying83 infoPl rfl (by decide) (by decide) u6 WLi PLi A7 PLi.length c7 (fun _ => True) (fun _ => False) rfl rfl (Kd.R_mono H6 (fun _ _ => trivial)) hC7 (fun x cs h => kPl_KM x cs h) (fun _ h => h.elim) (fun _ _ => trivial) hB hB.size (by omega) ?_; intro v1 w4 hv1 hb4 _ _)
      go_ret
      exact ⟨v1, rfl, by rw [HWL2.out]; exact Kd.R_lower hv1 hb1.size, btrW hb1 hb4⟩
end Go.Proofs.YtihdlalbgdighaaDoor.QV
/- plan.Many, plan.Choose, walked. -/
namespace Go.Proofs.YtihdlalbgdighaaDoor.QV
open Go.RowKit Go.Proofs.YtihdlalbgdighaaDoorW.PrintWords Go.Proofs.YtihdlalbgdighaaDoor.SeqW Go.Proofs.YtihdlalbgdighaaDoor.Op
set_option linter.unusedVariables false
set_option linter.unusedSimpArgs false
set_option maxRecDepth 100000
attribute [local go_sem] Oper.semAt_some
theorem kPl_at {w : World} {A : Option Addr} {xs : List (Int × Int)} (h : kPl.C w A xs.length xs) (i : Nat) (hi : i < xs.length) : ∃ ad, A = some ad ∧ w.cell? (ad.add (i * 2)) = some (.int .i64 (xs.getD i (0, 0)).1) ∧ w.cell? ⟨(ad.add (i * 2)).block, (ad.add (i * 2)).off + 1, none⟩ = some (.int .i64 (xs.getD i (0, 0)).2) := by
  obtain ⟨ad, c, e, _, hK, hc0⟩ := Kd.C_get h (0, 0) i (by omega) (by omega)
  have hc : ∀ j u, c[j]? = some u → w.cell? (ad.add (i * 2 + j)) = some u := hc0
  obtain rfl := kPl_open hK
  exact ⟨ad, e, hc 0 _ rfl, by rw [← add_field _ _ 1 (by omega)]; exact hc 1 _ rfl⟩
theorem waysL_len (ts : List Tbl) (ps : List Pj) (tb : Int) (np : ps.length ≤ 1048576) : (waysL ts ps tb).length ≤ 1099512676352 := by
  unfold waysL
  split
  · simp
  · have h1 := wholeL_len (ts.getD tb.toNat zT) tb ps ps.length
    have h2 := pairL_len (ts.getD tb.toNat zT) tb ps ps.length
    have h3 : ps.length * ps.length ≤ 1048576 * 1048576 := Nat.mul_le_mul np np
    rw [List.length_append]; omega
theorem results_row_tmp {P : Program} {fn : Func} {p u : Tmp} {ty : TypeId} (h : fn.results = #[.cell p ty, .tmp u]) (tmps : Array Value) (w : World) (g : Nat) (t : TypeId) (cs : Array Value) (fr : Nat × Nat) (d : TypeDesc)
    (hp : tmps.getD p undef = .pointer (some ⟨g, 0, none⟩)) (hg : w.heap[g]? = some (.cells cs t fr))
    (hu : P.underlying ty = some d) (hd : (match d with | .struct _ | .array _ _ => true | _ => false) = true) (hi : (P.info? ty).map (·.size) = some cs.size) :
    (results fn tmps).run P w = .ok (.tuple #[.agg cs, tmps.getD u undef]) w := by
  rw [results_cell_tmp h, hp]
  simp [asAddr, Result.andThen, run_loadVar_row w g t ty cs fr d hg hu hd hi]
set_option maxHeartbeats 8000000 in
theorem many_is (n0 n1 n2 : Int) (TA : Option Addr) (tc : Nat) (ts : List Tbl) (PA : Option Addr) (pc : Nat) (ps : List Pj) (tb : Int) (w : World)
    (hT : kTb.C w TA ts.length ts) (hTc : ts.length ≤ tc) (hP : kPj.C w PA ps.length ps) (hPc : ps.length ≤ pc) (np : ps.length ≤ 1048576) (nq : ∀ p ∈ ps, p.f2.length ≤ 1048576) :
    Calls Tryd.prog 13 #[.agg #[.int .i64 n0, .int .i64 n1, .int .i64 n2, .slice TA ts.length tc, .slice PA ps.length pc], .int .i64 tb] w fun e w' => e = .returned (.int .i64 ((waysL ts ps tb).length : Int)) ∧ Below w.heap.size w w' := by
  have hB1 : Below w.heap.size w (w.alloc (.cells #[.int .i64 n0, .int .i64 n1, .int .i64 n2, .slice TA ts.length tc, .slice PA ps.length pc] 40)) := below_alloc (Below.refl _ _) _
  have hw := ways_is n0 n1 n2 TA tc ts PA pc ps tb _ (Kd.C_below hT hB1) hTc (Kd.C_below hP hB1) hPc np nq
  obtain ⟨WL, hWL⟩ : ∃ WL, waysL ts ps tb = WL := ⟨_, rfl⟩
  rw [hWL] at hw ⊢
  have HW := Lib.hid hw
  clear hw
  go_enter Tryd.func13, Tryd.ntmps13
  go_wp2_with fail
  refine HW.out.mono ?_
  rintro e w2 ⟨v, rfl, hR, hb⟩
  obtain ⟨A2, c2, rfl, hle, hC⟩ := Kd.R_reads hR
  have hb2 := btrW hB1 hb
  go_wp2_with fail
  go_ret
  exact ⟨rfl, hb2⟩
/-- The way that is picked. -/
def pickN (n : Nat) (pick : Int) : Int := ((pick.tmod n) + n).tmod n
def chooseP (WL : List (Int × Int)) (pick : Int) : Int × Int := if WL.length = 0 then (0, 0) else WL.getD (pickN WL.length pick).toNat (0, 0)
theorem pickN_lt {n : Nat} (h : 0 < n) (pick : Int) : 0 ≤ pickN n pick ∧ pickN n pick < n ∧ -(n : Int) < pick.tmod n ∧ pick.tmod n < n := by
  have hn : (0 : Int) < n := by omega
  have h1 : -(n : Int) < pick.tmod n := by have := Int.tmod_lt_of_pos (-pick) hn; rw [Int.neg_tmod] at this; omega
  have h2 := Int.tmod_lt_of_pos pick hn
  unfold pickN
  exact ⟨Int.tmod_nonneg _ (by omega), Int.tmod_lt_of_pos _ hn, h1, h2⟩
set_option maxHeartbeats 8000000 in
theorem choose_is (n0 n1 n2 : Int) (TA : Option Addr) (tc : Nat) (ts : List Tbl) (PA : Option Addr) (pc : Nat) (ps : List Pj) (tb pick : Int) (w : World)
    (hT : kTb.C w TA ts.length ts) (hTc : ts.length ≤ tc) (hP : kPj.C w PA ps.length ps) (hPc : ps.length ≤ pc) (np : ps.length ≤ 1048576) (nq : ∀ p ∈ ps, p.f2.length ≤ 1048576) :
    Calls Tryd.prog 11 #[.agg #[.int .i64 n0, .int .i64 n1, .int .i64 n2, .slice TA ts.length tc, .slice PA ps.length pc], .int .i64 tb, .int .i64 pick] w fun e w' => e = .returned (.tuple #[.agg #[.int .i64 (chooseP (waysL ts ps tb) pick).1, .int .i64 (chooseP (waysL ts ps tb) pick).2], .int .i64 (if (waysL ts ps tb).length = 0 then 161 else 0)]) ∧ Below w.heap.size w w' := by
  obtain ⟨w1, hw1⟩ : ∃ w1, (w.alloc (.cells #[.int .i64 n0, .int .i64 n1, .int .i64 n2, .slice TA ts.length tc, .slice PA ps.length pc] 40)).alloc (.cells #[.int .i64 0, .int .i64 0] 43) = w1 := ⟨_, rfl⟩
  have hB1 : Below w.heap.size w w1 := by rw [← hw1]; exact below_alloc (below_alloc (Below.refl _ _) _) _
  have gr : w1.heap[w.heap.size + 1]? = some (.cells #[.int .i64 0, .int .i64 0] 43 (0, 0)) := by
    have := blk_new (w.alloc (.cells #[.int .i64 n0, .int .i64 n1, .int .i64 n2, .slice TA ts.length tc, .slice PA ps.length pc] 40)) (.cells #[.int .i64 0, .int .i64 0] 43)
    rw [World.size_alloc] at this
    rw [← hw1]; exact this
  have gc : w1.heap[w.heap.size]? = some (.cells #[.int .i64 n0, .int .i64 n1, .int .i64 n2, .slice TA ts.length tc, .slice PA ps.length pc] 40 (0, 0)) := by rw [← hw1]; exact blk_alloc (blk_new _ _) _
  have y0 := blk_cell gc 0
  have y1 := blk_cell gc 1
  have y2 := blk_cell gc 2
  have y3 := blk_cell gc 3
  have y4 := blk_cell gc 4
  have hw := ways_is n0 n1 n2 TA tc ts PA pc ps tb w1 (Kd.C_below hT hB1) hTc (Kd.C_below hP hB1) hPc np nq
  have hwl := waysL_len ts ps tb np
  obtain ⟨WL, hWL⟩ : ∃ WL, waysL ts ps tb = WL := ⟨_, rfl⟩
  rw [hWL] at hw hwl ⊢
  have HW := Lib.hid hw
  clear hw hWL
  go_enter Tryd.func11, Tryd.ntmps11
  go_wp2_with fail
  clear hw1 y0 y1 y2 y3 y4 gc
  refine HW.out.mono ?_
  rintro e w2 ⟨v, rfl, hR, hb⟩
  obtain ⟨A2, c2, rfl, hle, hC⟩ := Kd.R_reads hR
  have hb2 := btrW hB1 hb
  have gr2 := blk_below gr hb
  have x0 := blk_cell gr2 0
  have x1 := blk_cell gr2 1
  have f0 := blk_frozen gr2 0
  have f1 := blk_frozen gr2 1
  by_cases hz : WL.length = 0
  · have hch : chooseP WL pick = (0, 0) := by unfold chooseP; rw [if_pos hz]
    have HCH := Lib.hid hch
    clear hch
    go_wp2_with fail
    have gw : ((w2.setCell ⟨w.heap.size + 1, 0, none⟩ (.int .i64 0)).setCell ⟨w.heap.size + 1, 1, none⟩ (.int .i64 0)).heap[w.heap.size + 1]? = some (.cells #[.int .i64 0, .int .i64 0] 43 (0, 0)) :=
      blk_put (cs := #[.int .i64 0, .int .i64 0]) (blk_put (cs := #[.int .i64 0, .int .i64 0]) gr2 0 _ rfl) 1 _ rfl
    refine bodyPost_ret (results_row_tmp rfl _ _ (w.heap.size + 1) 43 #[.int .i64 0, .int .i64 0] (0, 0) _ rfl gw Tryd.underlying43 rfl (by kernel_rfl)) rfl ?_
    exact ⟨by rw [HCH.out]; rfl, below_set (below_set hb2 (by simp)) (by simp)⟩
  · have hp := pickN_lt (show 0 < WL.length by omega) pick
    have hnz : (WL.length : Int) ≠ 0 := by omega
    have e1 : IntKind.i64.wrap (pick.tmod (WL.length : Int)) = pick.tmod (WL.length : Int) := by rw [IntKind.wrap_i64]; omega
    have e2 : IntKind.i64.wrap (pick.tmod (WL.length : Int) + (WL.length : Int)) = pick.tmod (WL.length : Int) + (WL.length : Int) := by rw [IntKind.wrap_i64]; omega
    have e3 : IntKind.i64.wrap ((pick.tmod (WL.length : Int) + (WL.length : Int)).tmod (WL.length : Int)) = pickN WL.length pick := by
      show IntKind.i64.wrap (pickN WL.length pick) = _
      rw [IntKind.wrap_i64]; omega
    obtain ⟨m, hm⟩ : ∃ m : Nat, pickN WL.length pick = (m : Int) := ⟨(pickN WL.length pick).toNat, by omega⟩
    have hml : m < WL.length := by omega
    have hmz : (m : Int) < (WL.length : Int) := by omega
    obtain ⟨ad, rfl, z0, z1⟩ := kPl_at hC m hml
    have hch : chooseP WL pick = WL.getD m (0, 0) := by unfold chooseP; rw [if_neg hz, hm, Int.toNat_natCast]
    generalize WL.getD m (0, 0) = pr at *
    obtain ⟨pa, pb⟩ := pr
    simp only at z0 z1
    rw [hm] at e3
    have e4 : (pick.tmod (WL.length : Int) + (WL.length : Int)).tmod (WL.length : Int) = (m : Int) := hm
    have HCH := Lib.hid hch
    clear hp hm hch
    go_wp2_with fail
    have gw : ((w2.setCell ⟨w.heap.size + 1, 0, none⟩ (.int .i64 pa)).setCell ⟨w.heap.size + 1, 1, none⟩ (.int .i64 pb)).heap[w.heap.size + 1]? = some (.cells #[.int .i64 pa, .int .i64 pb] 43 (0, 0)) :=
      blk_put (cs := #[.int .i64 pa, .int .i64 0]) (blk_put (cs := #[.int .i64 0, .int .i64 0]) gr2 0 _ rfl) 1 _ rfl
    refine bodyPost_ret (results_row_tmp rfl _ _ (w.heap.size + 1) 43 #[.int .i64 pa, .int .i64 pb] (0, 0) _ rfl gw Tryd.underlying43 rfl (by kernel_rfl)) rfl ?_
    exact ⟨by rw [HCH.out]; rfl, below_set (below_set hb2 (by simp)) (by simp)⟩
end Go.Proofs.YtihdlalbgdighaaDoor.QV
/- plan.Answer, walked. -/
namespace Go.Proofs.YtihdlalbgdighaaDoor.QV
open Go.RowKit Go.Proofs.YtihdlalbgdighaaDoorW.PrintWords Go.Proofs.YtihdlalbgdighaaDoor.SeqW Go.Shelf Go.Proofs.YtihdlalbgdighaaDoor.Op Go.Proofs.YtihdlalbgdighaaDoor.Stab
set_option linter.unusedVariables false
set_option linter.unusedSimpArgs false
set_option maxRecDepth 100000
attribute [local go_sem] Oper.semAt_some
theorem btrA {a b c : World} (h : Below a.heap.size a b) (k : Below b.heap.size b c) : Below a.heap.size a c := h.trans (k.mono h.size)
set_option maxHeartbeats 8000000 in
theorem answer_any (q : Qy) (u : Array Value) (LA : Option Addr) (lc : Nat) (left : List Row) (RA : Option Addr) (rc : Nat) (right : List Row) (w : World) (hq : QAt w q u) (hs : QSmall q)
    (hL : kRows.C w LA left.length left) (hLc : left.length ≤ lc) (hR : kRows.C w RA right.length right) (hRc : right.length ≤ rc) (hT : Tab w)
    (hlr : ∀ x ∈ left, x.length ≤ 1048576) (hrr : ∀ x ∈ right, x.length ≤ 1048576) (hj : ∀ x ∈ left, ∀ y ∈ right, x.length + y.length ≤ 1048576) (hl : left.length ≤ 1048576) (hr : right.length ≤ 1048576) :
    Calls Tryd.prog 8 #[.agg u, .slice LA left.length lc, .slice RA right.length rc] w fun e w' => ∃ (A : Option Addr) (c : Nat) (R : List Row) (code : Int), e = .returned (.tuple #[.slice A R.length c, .int .i64 code]) ∧ R.length ≤ c ∧ kRows.C w' A R.length R ∧ Ans q left right R code ∧ Below w.heap.size w w' := by
  obtain ⟨tbl, rgt, wA, wn, cA, cc, bA, bc, gA, gc, oA, oc, rfl, hwh, hcols, hby, hag, hord⟩ := hq.ex
  clear hq
  have hjl : ∀ x ∈ joinL left right q.lo q.ro, x.length ≤ 1048576 := by
    intro x hx
    unfold joinL joinOne at hx
    rw [List.mem_flatMap] at hx
    obtain ⟨a, ha, hx⟩ := hx
    split at hx
    · simp at hx
    · obtain ⟨b, hb, rfl⟩ := List.mem_map.1 hx
      rw [List.length_append]
      exact hj a ha b (List.mem_filter.1 (List.mem_filter.1 hb).1).1
  have hans : ∀ rows R code, rowsQ q left right = some rows → ((4096 < (outQ q rows).length ∧ R = [] ∧ code = 150) ∨ ((outQ q rows).length ≤ 4096 ∧ code = 0 ∧ ∃ R0, Sorts [] (ordS q.ord) (outQ q rows) R0 ∧ R = cutQ q R0)) → Ans q left right R code := fun rows R code h1 h2 => by
    unfold Ans; rw [h1]; exact h2
  have hansN : rowsQ q left right = none → Ans q left right [] 150 := fun h => by
    unfold Ans; rw [h]; exact ⟨rfl, rfl⟩
  have hrq : rowsQ q left right = if q.join then (if 65536 < (joinL left right q.lo q.ro).length then none else some (joinL left right q.lo q.ro)) else some left := rfl
  have houtr := outQ_rows hs
  have hout : ∀ rows, outQ q rows = if q.grp then groupL q.byc q.aggs (rows.filter (allS q.wh)) else (rows.filter (allS q.wh)).map (fun x => pickS x q.cols) := fun _ => rfl
  have hcut : ∀ R, cutQ q R = if 0 < q.lim ∧ q.lim < (R.length : Int) then R.take q.lim.toNat else R := fun _ => rfl
  obtain ⟨hs1, hs2, hs3, hs4⟩ := hs
  obtain ⟨join, lo, ro, wh, cols, grp, byc, aggs, ord, lim⟩ := q
  simp only at hrq hs1 hs2 hs3 hs4 hwh hcols hby hag hord hjl hout hcut
  have HANS := Lib.hid (And.intro hans hansN)
  have HRQ := Lib.hid hrq
  have HOUT := Lib.hid (And.intro hout houtr)
  have HCUT := Lib.hid hcut
  clear hans hansN hrq hout houtr hcut
  go_enter Tryd.func8, Tryd.ntmps8
  go_wp2_with fail
  obtain ⟨w1, hw1⟩ : ∃ w1, w.alloc (.cells #[.int .i64 tbl, .bool join, .int .i64 rgt, .int .i64 lo, .int .i64 ro, .slice wA wh.length wn, .slice cA cols.length cc, .bool grp, .slice bA byc.length bc, .slice gA aggs.length gc, .slice oA ord.length oc, .int .i64 lim] 27) = w1 := ⟨_, rfl⟩
  rw [hw1]
  have hb1 : Below w.heap.size w w1 := by rw [← hw1]; exact below_alloc (Below.refl _ _) _
  have gq : w1.heap[w.heap.size]? = some (.cells #[.int .i64 tbl, .bool join, .int .i64 rgt, .int .i64 lo, .int .i64 ro, .slice wA wh.length wn, .slice cA cols.length cc, .bool grp, .slice bA byc.length bc, .slice gA aggs.length gc, .slice oA ord.length oc, .int .i64 lim] 27 (0, 0)) := by rw [← hw1]; exact blk_new _ _
  clear hw1
  have hbox : ∀ V, Below w1.heap.size w1 V → V.cell? ⟨w.heap.size, 1, none⟩ = some (.bool join) ∧ V.cell? ⟨w.heap.size, 3, none⟩ = some (.int .i64 lo) ∧ V.cell? ⟨w.heap.size, 4, none⟩ = some (.int .i64 ro) ∧ V.cell? ⟨w.heap.size, 5, none⟩ = some (.slice wA wh.length wn) ∧ V.cell? ⟨w.heap.size, 6, none⟩ = some (.slice cA cols.length cc) ∧ V.cell? ⟨w.heap.size, 7, none⟩ = some (.bool grp) ∧ V.cell? ⟨w.heap.size, 8, none⟩ = some (.slice bA byc.length bc) ∧ V.cell? ⟨w.heap.size, 9, none⟩ = some (.slice gA aggs.length gc) ∧ V.cell? ⟨w.heap.size, 10, none⟩ = some (.slice oA ord.length oc) ∧ V.cell? ⟨w.heap.size, 11, none⟩ = some (.int .i64 lim) := fun V hV => by
    have g := blk_below gq hV
    exact ⟨blk_cell g 1, blk_cell g 3, blk_cell g 4, blk_cell g 5, blk_cell g 6, blk_cell g 7, blk_cell g 8, blk_cell g 9, blk_cell g 10, blk_cell g 11⟩
  have HBOX := Lib.hid hbox
  clear hbox gq
  refine (values_is LA left lc w1 (Kd.C_below hL hb1)).mono ?_
  rintro e w2 ⟨v2, rfl, hs2', hb2⟩
  obtain ⟨f2, l2, rfl⟩ := hs2'.form
  have hB2 := btrA hb1 hb2
  obtain ⟨x1, x3, x4, x5, x6, x7, x8, x9, x10, x11⟩ := HBOX.out w2 hb2
  go_upto_if 16 with fail
  go_cut [8] from 15 to 33 (fun s8 wx => ∃ (rows : List Row), rowsQ ⟨join, lo, ro, wh, cols, grp, byc, aggs, ord, lim⟩ left right = some rows ∧ IsSeq wx s8 rows ∧ (∀ x ∈ rows, x.length ≤ 1048576) ∧ rows.length ≤ 1048576 ∧ Below w.heap.size w wx ∧ Below w1.heap.size w1 wx)
  case first =>
    cases join with
    | false =>
      go_wp2_with fail
      go_meet
      case rel => exact ⟨left, by rw [HRQ.out]; rfl, hs2', hlr, hl, hB2, hb2⟩
    | true =>
      obtain ⟨JL, hJL⟩ : ∃ JL, joinL left right lo ro = JL := ⟨_, rfl⟩
      rw [hJL] at hjl
      have S0 : ∀ V, Below w2.heap.size w2 V → V.cell? ⟨w.heap.size, 3, none⟩ = some (.int .i64 lo) ∧ V.cell? ⟨w.heap.size, 4, none⟩ = some (.int .i64 ro) := fun V hV => ⟨(HBOX.out V (btrA hb2 hV)).2.1, (HBOX.out V (btrA hb2 hV)).2.2.1⟩
      go_wp2_with fail
      refine (wpIn_wide (n := 0)).1 ?_
      refine wpIn_region_R (l := 0) 99 (S := fun V => V.cell? ⟨w.heap.size, 3, none⟩ = some (.int .i64 lo) ∧ V.cell? ⟨w.heap.size, 4, none⟩ = some (.int .i64 ro)) (by kernel_rfl) (S0 _ (below_drew (Below.refl _ _))) (fun hS0 => ?_)
      refine wpAnyR_take (i := 0) (oi := ⟨some 18, _, _, _, _, _⟩) (v := ?_) (by kernel_rfl) (by kernel_rfl) rfl (by kernel_rfl) (by kernel_rfl) (by kernel_rfl) (fun _ _ _ h => h) (Or.inl ⟨by rfl, ?_⟩) (by assumption) ?_
      rotate_left
      · intro w hSw; (try dsimp only at hSw); (try go_split_ands); go_simp; (try (with_reducible rfl))
      (try simp only [Act.put, List.setIfInBounds_toArray, List.set_cons_zero, List.set_cons_succ])
      refine wpAnyR_take (i := 1) (oi := ⟨some 19, _, _, _, _, _⟩) (v := ?_) (by kernel_rfl) (by kernel_rfl) rfl (by kernel_rfl) (by kernel_rfl) (by kernel_rfl) (fun _ _ _ h => h) (Or.inl ⟨by rfl, ?_⟩) (by assumption) ?_
      rotate_left
      · intro w hSw; (try dsimp only at hSw); (try go_split_ands); go_simp; (try (with_reducible rfl))
      (try simp only [Act.put, List.setIfInBounds_toArray, List.set_cons_zero, List.set_cons_succ])
      refine wpAnyR_take (i := 3) (oi := ⟨some 21, _, _, _, _, _⟩) (v := ?_) (by kernel_rfl) (by kernel_rfl) rfl (by kernel_rfl) (by kernel_rfl) (by kernel_rfl) (fun _ _ _ h => h) (Or.inl ⟨by rfl, ?_⟩) (by assumption) ?_
      rotate_left
      · intro w hSw; (try dsimp only at hSw); (try go_split_ands); go_simp; (try (with_reducible rfl))
      (try simp only [Act.put, List.setIfInBounds_toArray, List.set_cons_zero, List.set_cons_succ])
      refine wpAnyR_take (i := 4) (oi := ⟨some 22, _, _, _, _, _⟩) (v := ?_) (by kernel_rfl) (by kernel_rfl) rfl (by kernel_rfl) (by kernel_rfl) (by kernel_rfl) (fun _ _ _ h => h) (Or.inl ⟨by rfl, ?_⟩) (by assumption) ?_
      rotate_left
      · intro w hSw; (try dsimp only at hSw); (try go_split_ands); go_simp; (try (with_reducible rfl))
      (try simp only [Act.put, List.setIfInBounds_toArray, List.set_cons_zero, List.set_cons_succ])
      refine wpAnyR_take (i := 5) (oi := ⟨some 23, _, _, _, _, _⟩) (v := ?_) (by kernel_rfl) (by kernel_rfl) rfl (by kernel_rfl) (by kernel_rfl) (by kernel_rfl) (fun _ _ _ h => h) (Or.inl ⟨by rfl, ?_⟩) (by assumption) ?_
      rotate_left
      · intro w hSw; (try dsimp only at hSw); (try go_split_ands); go_simp; (try (with_reducible rfl))
      (try simp only [Act.put, List.setIfInBounds_toArray, List.set_cons_zero, List.set_cons_succ])
      refine wpAnyR_take (i := 6) (oi := ⟨some 24, _, _, _, _, _⟩) (v := ?_) (by kernel_rfl) (by kernel_rfl) rfl (by kernel_rfl) (by kernel_rfl) (by kernel_rfl) (fun _ _ _ h => h) (Or.inl ⟨by rfl, ?_⟩) (by assumption) ?_
      rotate_left
      · intro w hSw; (try dsimp only at hSw); (try go_split_ands); go_simp; (try (with_reducible rfl))
      (try simp only [Act.put, List.setIfInBounds_toArray, List.set_cons_zero, List.set_cons_succ])
      refine wpAnyR_one (i := 2) (o := ⟨some 20, _, _, _, _, _⟩) (by kernel_rfl) (by kernel_rfl) rfl (fun K hK => ?_)
      go_simp
      have hBd : Below w.heap.size w w2.drew := below_drew hB2
      refine (values_is RA right rc w2.drew (Kd.C_below hR hBd)).mono ?_
      rintro e w3 ⟨v3, rfl, hs3', hb3⟩
      obtain ⟨f3, l3, rfl⟩ := hs3'.form
      have hb3' : Below w2.heap.size w2 w3 := (below_drew (Below.refl _ w2)).trans hb3
      (try dsimp only)
      refine hK.out _ _ (.inr (S0 _ hb3')) ?_
      clear hK K
      (try simp only [Act.put, List.setIfInBounds_toArray, List.set_cons_zero, List.set_cons_succ])
      refine wpAnyR_one (i := 7) (o := ⟨some 25, _, _, _, _, _⟩) (by kernel_rfl) (by kernel_rfl) rfl (fun K hK => ?_)
      go_simp
      refine (join_is left right lo ro _ _ w3 (hs2'.later hb3') hs3' hrr hlr hr).mono ?_
      rintro e w4 ⟨v4, rfl, hs4', hb4⟩
      rw [hJL] at hs4'
      obtain ⟨f4, l4, rfl⟩ := hs4'.seq.form
      have hb4' : Below w2.heap.size w2 w4 := btrA hb3' hb4
      (try dsimp only)
      refine hK.out _ _ (.inr (S0 _ hb4')) ?_
      clear hK K
      (try simp only [Act.put, List.setIfInBounds_toArray, List.set_cons_zero, List.set_cons_succ])
      refine wpAnyR_one (i := 8) (o := ⟨some 26, _, _, _, _, _⟩) (by kernel_rfl) (by kernel_rfl) rfl (fun K hK => ?_)
      go_simp
      refine (collect_any _ JL 65536 w4 hs4'.seq (by omega) (by omega) (fun x hx => by have := hjl x hx; omega)).mono ?_
      rintro e w5 ⟨hb5, hcol⟩
      have hb5' : Below w2.heap.size w2 w5 := btrA hb4' hb5
      have hB5 := btrA hB2 hb5'
      rcases hcol with ⟨hfew, v5, rfl, hS5⟩ | ⟨hmany, rfl⟩
      · obtain ⟨B5, c5, rfl, hle5, hC5⟩ := Kd.S_reads hS5
        (try dsimp only)
        refine hK.out _ _ (.inr (S0 _ hb5')) ?_
        clear hK K
        (try simp only [Act.put, List.setIfInBounds_toArray, List.set_cons_zero, List.set_cons_succ])
        have hS5w := S0 _ hb5'
        refine wpAnyR_take (i := 9) (oi := ⟨some 17, _, _, _, _, _⟩) (v := ?_) (by kernel_rfl) (by kernel_rfl) rfl (by kernel_rfl) (by kernel_rfl) (by kernel_rfl) (fun _ _ _ h => h) (Or.inl ⟨by rfl, ?_⟩) (by assumption) ?_
        rotate_left
        · intro w hSw; (try dsimp only at hSw); (try go_split_ands); go_simp; (try (with_reducible rfl))
        (try simp only [Act.put, List.setIfInBounds_toArray, List.set_cons_zero, List.set_cons_succ])
        refine wpAnyR_take (i := 10) (oi := ⟨some 27, _, _, _, _, _⟩) (v := ?_) (by kernel_rfl) (by kernel_rfl) rfl (by kernel_rfl) (by kernel_rfl) (by kernel_rfl) (fun _ _ _ h => h) (Or.inl ⟨by rfl, ?_⟩) (by assumption) ?_
        rotate_left
        · intro w hSw; (try dsimp only at hSw); (try go_split_ands); go_simp; (try (with_reducible rfl))
        (try simp only [Act.put, List.setIfInBounds_toArray, List.set_cons_zero, List.set_cons_succ])
        refine wpAnyR_take (i := 11) (oi := ⟨some 28, _, _, _, _, _⟩) (v := ?_) (by kernel_rfl) (by kernel_rfl) rfl (by kernel_rfl) (by kernel_rfl) (by kernel_rfl) (fun _ _ _ h => h) (Or.inl ⟨by rfl, ?_⟩) (by assumption) ?_
        rotate_left
        · intro w hSw; (try dsimp only at hSw); (try go_split_ands); go_simp; (try (with_reducible rfl))
        (try simp only [Act.put, List.setIfInBounds_toArray, List.set_cons_zero, List.set_cons_succ])
        refine wpAnyR_take (i := 12) (oi := ⟨some 9, _, _, _, _, _⟩) (v := ?_) (by kernel_rfl) (by kernel_rfl) rfl (by kernel_rfl) (by kernel_rfl) (by kernel_rfl) (fun _ _ _ h => h) (Or.inl ⟨by rfl, ?_⟩) (by assumption) ?_
        rotate_left
        · intro w hSw; (try dsimp only at hSw); (try go_split_ands); go_simp; (try (with_reducible rfl))
        (try simp only [Act.put, List.setIfInBounds_toArray, List.set_cons_zero, List.set_cons_succ])
        refine wpAnyR_take (i := 13) (oi := ⟨some 10, _, _, _, _, _⟩) (v := ?_) (by kernel_rfl) (by kernel_rfl) rfl (by kernel_rfl) (by kernel_rfl) (by kernel_rfl) (fun _ _ _ h => h) (Or.inl ⟨by rfl, ?_⟩) (by assumption) ?_
        rotate_left
        · intro w hSw; (try dsimp only at hSw); (try go_split_ands); go_simp; (try (with_reducible rfl))
        (try simp only [Act.put, List.setIfInBounds_toArray, List.set_cons_zero, List.set_cons_succ])
        refine wpAnyR_done (by kernel_rfl) ?_ _
        go_wp2_with fail
        refine (values_is B5 JL c5 w5 hC5).mono ?_
        rintro e w6 ⟨v6, rfl, hs6', hb6⟩
        obtain ⟨f6, l6, rfl⟩ := hs6'.form
        go_wp2_with fail
        go_meet
        case rel =>
          refine ⟨JL, ?_, hs6', hjl, by omega, btrA hB5 hb6, btrA (btrA hb2 hb5') hb6⟩
          have h := HRQ.out
          simp only [if_true, hJL] at h
          rw [h, if_neg (by omega)]
      · (try dsimp only)
        refine hK.out _ _ (.inr (S0 _ hb5')) ?_
        clear hK K
        (try simp only [Act.put, List.setIfInBounds_toArray, List.set_cons_zero, List.set_cons_succ])
        have hS5w := S0 _ hb5'
        refine wpAnyR_take (i := 9) (oi := ⟨some 17, _, _, _, _, _⟩) (v := ?_) (by kernel_rfl) (by kernel_rfl) rfl (by kernel_rfl) (by kernel_rfl) (by kernel_rfl) (fun _ _ _ h => h) (Or.inl ⟨by rfl, ?_⟩) (by assumption) ?_
        rotate_left
        · intro w hSw; (try dsimp only at hSw); (try go_split_ands); go_simp; (try (with_reducible rfl))
        (try simp only [Act.put, List.setIfInBounds_toArray, List.set_cons_zero, List.set_cons_succ])
        refine wpAnyR_take (i := 10) (oi := ⟨some 27, _, _, _, _, _⟩) (v := ?_) (by kernel_rfl) (by kernel_rfl) rfl (by kernel_rfl) (by kernel_rfl) (by kernel_rfl) (fun _ _ _ h => h) (Or.inl ⟨by rfl, ?_⟩) (by assumption) ?_
        rotate_left
        · intro w hSw; (try dsimp only at hSw); (try go_split_ands); go_simp; (try (with_reducible rfl))
        (try simp only [Act.put, List.setIfInBounds_toArray, List.set_cons_zero, List.set_cons_succ])
        refine wpAnyR_take (i := 11) (oi := ⟨some 28, _, _, _, _, _⟩) (v := ?_) (by kernel_rfl) (by kernel_rfl) rfl (by kernel_rfl) (by kernel_rfl) (by kernel_rfl) (fun _ _ _ h => h) (Or.inl ⟨by rfl, ?_⟩) (by assumption) ?_
        rotate_left
        · intro w hSw; (try dsimp only at hSw); (try go_split_ands); go_simp; (try (with_reducible rfl))
        (try simp only [Act.put, List.setIfInBounds_toArray, List.set_cons_zero, List.set_cons_succ])
        refine wpAnyR_take (i := 12) (oi := ⟨some 9, _, _, _, _, _⟩) (v := ?_) (by kernel_rfl) (by kernel_rfl) rfl (by kernel_rfl) (by kernel_rfl) (by kernel_rfl) (fun _ _ _ h => h) (Or.inl ⟨by rfl, ?_⟩) (by assumption) ?_
        rotate_left
        · intro w hSw; (try dsimp only at hSw); (try go_split_ands); go_simp; (try (with_reducible rfl))
        (try simp only [Act.put, List.setIfInBounds_toArray, List.set_cons_zero, List.set_cons_succ])
        refine wpAnyR_take (i := 13) (oi := ⟨some 10, _, _, _, _, _⟩) (v := ?_) (by kernel_rfl) (by kernel_rfl) rfl (by kernel_rfl) (by kernel_rfl) (by kernel_rfl) (fun _ _ _ h => h) (Or.inl ⟨by rfl, ?_⟩) (by assumption) ?_
        rotate_left
        · intro w hSw; (try dsimp only at hSw); (try go_split_ands); go_simp; (try (with_reducible rfl))
        (try simp only [Act.put, List.setIfInBounds_toArray, List.set_cons_zero, List.set_cons_succ])
        refine wpAnyR_done (by kernel_rfl) ?_ _
        go_wp2_with fail
        go_ret2
        refine ⟨none, 0, [], 150, rfl, Nat.le_refl _, Kd.C_nil _ _, HANS.out.2 ?_, hB5⟩
        have h := HRQ.out
        simp only [if_true, hJL] at h
        rw [h, if_pos (by omega)]
  case rest =>
    obtain ⟨rows, hrows, hsR, hrl, hrn, hBc, hb1c⟩ := hcut
    clear x1 x3 x4 x5 x6 x7 x8 x9 x10 x11 hs2'
    obtain ⟨f7, l7, rfl⟩ := hsR.form
    obtain ⟨x1, x3, x4, x5, x6, x7, x8, x9, x10, x11⟩ := HBOX.out wc hb1c
    go_wp2_with fail
    refine (filter_is rows wh wA wn _ wc hsR (Kd.C_below hwh.1 hBc) hwh.2 (hT.below hBc) hrl (by omega)).mono ?_
    rintro e w8 ⟨v8, rfl, hs8, hb8⟩
    obtain ⟨f8, l8, rfl⟩ := hs8.seq.form
    have hB8 := btrA hBc hb8
    have hb18 := btrA hb1c hb8
    obtain ⟨FL, hFL⟩ : ∃ FL, rows.filter (allS wh) = FL := ⟨_, rfl⟩
    have hfl : FL.length ≤ rows.length := by rw [← hFL]; exact List.length_filter_le _ _
    have hfr : ∀ x ∈ FL, x.length ≤ 1048576 := fun x hx => by rw [← hFL] at hx; exact hrl x (List.mem_filter.1 hx).1
    rw [hFL] at hs8
    have hO := HOUT.out.1 rows
    have hOr := HOUT.out.2 rows
    obtain ⟨OL, hOL⟩ : ∃ OL, outQ ⟨join, lo, ro, wh, cols, grp, byc, aggs, ord, lim⟩ rows = OL := ⟨_, rfl⟩
    have hA := HANS.out.1 rows
    rw [hFL] at hO
    rw [hOL] at hO hOr hA
    have HA := Lib.hid (And.intro hO (And.intro hA hrows))
    clear hO hA hFL hOL hrows x1 x3 x4 x5 x6 x7 x8 x9 x10 x11
    obtain ⟨x1, x3, x4, x5, x6, x7, x8, x9, x10, x11⟩ := HBOX.out w8 hb18
    go_upto_if 39 with fail
    go_cut [8] from 38 to 49 (fun s8 wx => IsSeq wx s8 OL ∧ Below w.heap.size w wx ∧ Below w1.heap.size w1 wx)
    case first =>
      cases grp with
      | false =>
        go_wp2_with fail
        refine (project_is FL cols cA cc _ w8 hs8.seq (Kd.C_below hcols.1 hB8) hcols.2 (by omega)).mono ?_
        rintro e w9 ⟨v9, rfl, hs9, hb9⟩
        obtain ⟨f9, l9, rfl⟩ := hs9.seq.form
        go_wp2_with fail
        go_meet
        case rel => exact ⟨by rw [HA.out.1]; exact hs9.seq, btrA hB8 hb9, btrA hb18 hb9⟩
      | true =>
        go_wp2_with fail
        refine (group_is FL byc aggs bA bc gA gc _ w8 hs8.seq (Kd.C_below hby.1 hB8) hby.2 (Kd.C_below hag.1 hB8) hag.2 hfr (by omega) (by omega) (by omega)).mono ?_
        rintro e w9 ⟨v9, rfl, hs9, hb9⟩
        obtain ⟨f9, l9, rfl⟩ := hs9.seq.form
        go_wp2_with fail
        go_meet
        case rel => exact ⟨by rw [HA.out.1]; exact hs9.seq, btrA hB8 hb9, btrA hb18 hb9⟩
    case rest =>
      obtain ⟨hsO, hBo, hb1o⟩ := hcut
      obtain ⟨WO, rfl⟩ : ∃ WO, WO = wc := ⟨_, rfl⟩
      obtain ⟨f10, l10, rfl⟩ := hsO.form
      clear x1 x3 x4 x5 x6 x7 x8 x9 x10 x11
      go_wp2_with fail
      refine (collect_any _ OL 4096 WO hsO (by omega) (by omega) (fun x hx => by have := hOr x hx; omega)).mono ?_
      rintro e w11 ⟨hb11, hcol⟩
      have hB11 := btrA hBo hb11
      have hb111 := btrA hb1o hb11
      obtain ⟨x1, x3, x4, x5, x6, x7, x8, x9, x10, x11⟩ := HBOX.out w11 hb111
      rcases hcol with ⟨hfew, v11, rfl, hS11⟩ | ⟨hmany, rfl⟩
      · obtain ⟨B11, c11, rfl, hle11, hC11⟩ := Kd.S_reads hS11
        have hoe : OL.length ≤ 4096 := by omega
        go_wp2_with fail
        refine (sort_any B11 c11 OL oA oc ord w11 hC11 hle11 (Kd.C_below hord.1 hB11) hord.2 hOr (by omega)).mono ?_
        rintro e w12 ⟨B12, c12, R0, rfl, hle12, hC12, hso12, hb12⟩
        have hB12 := btrA hB11 hb12
        have hb112 := btrA hb111 hb12
        have hlim := (HBOX.out w12 hb112).2.2.2.2.2.2.2.2.2
        have hRl : R0.length = OL.length := hso12.len
        have HRL := Lib.hid hRl
        clear hRl x1 x3 x4 x5 x6 x7 x8 x9 x10 x11
        have hR0 : R0.length ≤ 4096 := by rw [HRL.out]; exact hoe
        by_cases hc1 : 0 < lim
        · by_cases hc2 : lim < (R0.length : Int)
          · obtain ⟨m, hm⟩ : ∃ m : Nat, lim = (m : Int) := ⟨lim.toNat, by omega⟩
            have hml : m < R0.length := by omega
            subst hm
            have hmc : m ≤ c12 := by omega
            have htk := Kd.C_take (m := m) hC12 (by omega)
            have htl : (R0.take m).length = m := by rw [List.length_take]; omega
            go_wp2_with fail
            go_ret2
            refine ⟨B12, m, R0.take m, 0, by rw [htl]; rfl, by rw [htl]; exact Nat.le_refl _, htk, HA.out.2.1 _ _ HA.out.2.2 (.inr ⟨hoe, rfl, R0, hso12, ?_⟩), hB12⟩
            rw [HCUT.out, if_pos ⟨hc1, hc2⟩]; rfl
          · go_wp2_with fail
            go_ret2
            refine ⟨B12, c12, R0, 0, rfl, hle12, hC12, HA.out.2.1 _ _ HA.out.2.2 (.inr ⟨hoe, rfl, R0, hso12, ?_⟩), hB12⟩
            rw [HCUT.out, if_neg (fun h => by have := h.2; omega)]
        · go_wp2_with fail
          go_ret2
          refine ⟨B12, c12, R0, 0, rfl, hle12, hC12, HA.out.2.1 _ _ HA.out.2.2 (.inr ⟨hoe, rfl, R0, hso12, ?_⟩), hB12⟩
          rw [HCUT.out, if_neg (fun h => by have := h.1; omega)]
      · go_wp2_with fail
        go_ret2
        exact ⟨none, 0, [], 150, rfl, Nat.le_refl _, Kd.C_nil _ _, HA.out.2.1 _ _ HA.out.2.2 (.inl ⟨by omega, rfl, rfl⟩), hB11⟩
end Go.Proofs.YtihdlalbgdighaaDoor.QV
/- hayloftlaw16.alive, walked. -/
namespace Go.Proofs.YtihdlalbgdighaaDoor.QV
open Go.RowKit Go.Proofs.YtihdlalbgdighaaDoorW.PrintWords Go.Proofs.YtihdlalbgdighaaDoor.SeqW Go.Shelf Go.Proofs.YtihdlalbgdighaaDoor.Op Go.Proofs.YtihdlalbgdighaaDoor.Stab
set_option linter.unusedVariables false
set_option linter.unusedSimpArgs false
set_option maxRecDepth 100000
attribute [local go_sem] Oper.semAt_some
theorem small_is : ∃ (T0 : List Tbl) (P0 : List Pj), hayloftlaw16_small.f = some (1, 1, 0, T0, P0) ∧ waysL T0 P0 0 = [(0, -1), (1, 2)] ∧ P0.length ≤ 1048576 ∧ (∀ p ∈ P0, p.f2.length ≤ 1048576) := by
  refine ⟨_, _, rfl, by decide, by decide, ?_⟩
  intro p hp
  simp only [List.mem_cons, List.not_mem_nil, or_false] at hp
  rcases hp with rfl | rfl | rfl <;> decide
theorem kRows_at16 {w : World} {A : Option Addr} {xs : List Row} (h : kRows.C w A xs.length xs) (i : Nat) (hi : i < xs.length) : ∃ ad Ax cx, A = some ad ∧ w.cell? (ad.add i) = some (.slice Ax (xs.getD i []).length cx) ∧ (xs.getD i []).length ≤ cx ∧ kS.C w Ax (xs.getD i []).length (xs.getD i []) := by
  obtain ⟨ad, cs, e, _, ⟨Ad, cp, rfl, hle, hC⟩, hcs⟩ := Kd.C_get h [] i (by omega) (by omega)
  rw [Int.toNat_natCast] at hle hC hcs
  have hsz : kRows.sz = 1 := rfl
  have hc0 := hcs 0 _ rfl
  rw [hsz, Nat.mul_one, Nat.add_zero] at hc0
  exact ⟨ad, Ad, cp, e, hc0, hle, hC⟩
theorem add_zero16 (a : Addr) : a.add 0 = a := by cases a; simp [Addr.add]
def rowF : Row := [⟨2, false, 4, ⟨#[]⟩⟩]
def qF : Qy := ⟨false, 0, 0, [], [0], false, [], [], [], 0⟩
theorem ans_F {R : List Row} {code : Int} (h : Ans qF [rowF] [] R code) : R = [rowF] ∧ code = 0 := by
  have ho : outQ qF [rowF] = [rowF] := rfl
  have h2 : (4096 < (outQ qF [rowF]).length ∧ R = [] ∧ code = 150) ∨ ((outQ qF [rowF]).length ≤ 4096 ∧ code = 0 ∧ ∃ R0, Sorts [] (ordS []) (outQ qF [rowF]) R0 ∧ R = cutQ qF R0) := h
  rw [ho] at h2
  rcases h2 with ⟨h2, _⟩ | ⟨_, hc, R0, hs, hR⟩
  · simp at h2
  · have h0 : R0 = [rowF] := List.perm_singleton.1 hs.perm
    refine ⟨?_, hc⟩
    rw [hR, h0]; rfl
set_option maxHeartbeats 8000000 in
theorem alive16_any (w : World) (hT : Tab w) : Calls Tryd.prog 6 #[] w fun e w' => e = .returned (.bool true) ∧ Below w.heap.size w w' := by
  obtain ⟨T0, P0, hsm, hwy, hpl, hpq⟩ := small_is
  go_enter Tryd.func6, Tryd.ntmps6
  go_wp2_with fail
  refine (hayloftlaw16_small.calls 1 1 0 T0 P0 w hsm).mono ?_
  rintro e w1 ⟨v3, v4, rfl, hN3, hN4, hb1⟩
  obtain ⟨TA, tc, rfl, htc, hTC⟩ := Kd.N_reads hN3
  obtain ⟨PA, pc, rfl, hpc, hPC⟩ := Kd.N_reads hN4
  clear hN3 hN4
  obtain ⟨w2, hw2⟩ : ∃ w2, w1.alloc (.cells #[.int .i64 1, .int .i64 1, .int .i64 0, .slice TA T0.length tc, .slice PA P0.length pc] 40) = w2 := ⟨_, rfl⟩
  have gc : w2.heap[w1.heap.size]? = some (.cells #[.int .i64 1, .int .i64 1, .int .i64 0, .slice TA T0.length tc, .slice PA P0.length pc] 40 (0, 0)) := by rw [← hw2]; exact blk_new _ _
  have hb2 : Below w1.heap.size w1 w2 := by rw [← hw2]; exact below_alloc (Below.refl _ _) _
  have hB2 := btrW hb1 hb2
  have hbox : ∀ V, Below w2.heap.size w2 V → V.cell? ⟨w1.heap.size, 0, none⟩ = some (.int .i64 1) ∧ V.cell? ⟨w1.heap.size, 1, none⟩ = some (.int .i64 1) ∧ V.cell? ⟨w1.heap.size, 2, none⟩ = some (.int .i64 0) ∧ V.cell? ⟨w1.heap.size, 3, none⟩ = some (.slice TA T0.length tc) ∧ V.cell? ⟨w1.heap.size, 4, none⟩ = some (.slice PA P0.length pc) := fun V hV => by
    have g := blk_below gc hV
    exact ⟨blk_cell g 0, blk_cell g 1, blk_cell g 2, blk_cell g 3, blk_cell g 4⟩
  obtain ⟨y0, y1, y2, y3, y4⟩ := hbox w2 (Below.refl _ _)
  have HBOX := Lib.hid hbox
  clear hbox gc
  go_wp2_with fail
  clear hw2
  have hch := choose_is 1 1 0 TA tc T0 PA pc P0 0 (-1) w2 (Kd.C_below hTC hb2) htc (Kd.C_below hPC hb2) hpc hpl hpq
  rw [hwy] at hch
  refine hch.mono ?_
  clear hch
  rintro e w3 ⟨he3, hb3⟩
  have he3' : e = .returned (.tuple #[.agg #[.int .i64 1, .int .i64 2], .int .i64 0]) := by rw [he3]; rfl
  subst he3'
  clear he3 y0 y1 y2 y3 y4
  obtain ⟨y0, y1, y2, y3, y4⟩ := HBOX.out w3 hb3
  go_wp2_with fail
  obtain ⟨a1, ha1⟩ : ∃ a1, w3.alloc (.cells #[.int .i64 1, .int .i64 2] 43) = a1 := ⟨_, rfl⟩
  have s1 : a1.heap.size = w3.heap.size + 1 := by rw [← ha1, World.size_alloc]
  have g1 : a1.heap[w3.heap.size]? = some (.cells #[.int .i64 1, .int .i64 2] 43 (0, 0)) := by rw [← ha1]; exact blk_new _ _
  have k1 : Below w3.heap.size w3 a1 := by rw [← ha1]; exact below_alloc (Below.refl _ _) _
  obtain ⟨a2, ha2⟩ : ∃ a2, a1.alloc (.cells #[.int .i64 0] 3) = a2 := ⟨_, rfl⟩
  have s2 : a2.heap.size = w3.heap.size + 1 + 1 := by rw [← ha2, World.size_alloc, s1]
  have g2 : a2.heap[w3.heap.size + 1]? = some (.cells #[.int .i64 0] 3 (0, 0)) := by rw [← ha2, ← s1]; exact blk_new _ _
  have k2 : Below a1.heap.size a1 a2 := by rw [← ha2]; exact below_alloc (Below.refl _ _) _
  obtain ⟨a3, ha3⟩ : ∃ a3, a2.alloc (.cells #[.int .i64 2, .bool false, .int .i64 4, .string ⟨#[]⟩] 61) = a3 := ⟨_, rfl⟩
  have s3 : a3.heap.size = w3.heap.size + 1 + 1 + 1 := by rw [← ha3, World.size_alloc, s2]
  have g3 : a3.heap[w3.heap.size + 1 + 1]? = some (.cells #[.int .i64 2, .bool false, .int .i64 4, .string ⟨#[]⟩] 61 (0, 0)) := by rw [← ha3, ← s2]; exact blk_new _ _
  have k3 : Below a2.heap.size a2 a3 := by rw [← ha3]; exact below_alloc (Below.refl _ _) _
  obtain ⟨a4, ha4⟩ : ∃ a4, a3.alloc (.cells #[.slice (some ⟨w3.heap.size + 1 + 1, 0, none⟩) 1 1] 62) = a4 := ⟨_, rfl⟩
  have g4 : a4.heap[w3.heap.size + 1 + 1 + 1]? = some (.cells #[.slice (some ⟨w3.heap.size + 1 + 1, 0, none⟩) 1 1] 62 (0, 0)) := by rw [← ha4, ← s3]; exact blk_new _ _
  have k4 : Below a3.heap.size a3 a4 := by rw [← ha4]; exact below_alloc (Below.refl _ _) _
  rw [ha1, ha2, ha3, ha4]
  clear ha1 ha2 ha3 ha4
  have g3' := blk_below g3 k4
  have g2' := blk_below (blk_below g2 k3) k4
  have g1' := blk_below (blk_below (blk_below g1 k2) k3) k4
  have h34 : Below w3.heap.size w3 a4 := btrW (btrW (btrW k1 k2) k3) k4
  clear g1 g2 g3 k1 k2 k3 k4 s1 s2 s3
  have hbA := btrW (btrW hB2 hb3) h34
  have hci : kI.C a4 (some ⟨w3.heap.size + 1, 0, none⟩) 1 [0] := C_one kI a4 (w3.heap.size + 1) 0 [.int .i64 0] rfl (fun i u hu => by rw [blk_cell g2' i]; simpa using hu)
  have hcv : kS.C a4 (some ⟨w3.heap.size + 1 + 1, 0, none⟩) 1 rowF := C_one kS a4 (w3.heap.size + 1 + 1) _ _ (k61_mk a4 ⟨2, false, 4, ⟨#[]⟩⟩) (fun i u hu => by rw [blk_cell g3' i]; simpa using hu)
  have hcr : kRows.C a4 (some ⟨w3.heap.size + 1 + 1 + 1, 0, none⟩) [rowF].length [rowF] := C_one kRows a4 (w3.heap.size + 1 + 1 + 1) rowF [.slice (some ⟨w3.heap.size + 1 + 1, 0, none⟩) rowF.length 1] ⟨_, _, rfl, by simp [rowF], hcv⟩ (fun i u hu => by rw [blk_cell g4 i]; simpa [rowF] using hu)
  have hqa : QAt a4 qF #[.int .i64 0, .bool false, .int .i64 0, .int .i64 0, .int .i64 0, .slice none 0 0, .slice (some ⟨w3.heap.size + 1, 0, none⟩) 1 1, .bool false, .slice none 0 0, .slice none 0 0, .slice none 0 0, .int .i64 0] :=
    ⟨0, 0, none, 0, _, 1, none, 0, none, 0, none, 0, rfl, ⟨Kd.C_nil _ _, Nat.le_refl _⟩, ⟨hci, Nat.le_refl _⟩, ⟨Kd.C_nil _ _, Nat.le_refl _⟩, ⟨Kd.C_nil _ _, Nat.le_refl _⟩, ⟨Kd.C_nil _ _, Nat.le_refl _⟩⟩
  have han := answer_any qF _ (some ⟨w3.heap.size + 1 + 1 + 1, 0, none⟩) 1 [rowF] none 0 [] a4 hqa ⟨by decide, by decide, by decide, by decide⟩ hcr (Nat.le_refl _) (Kd.C_nil _ _) (Nat.le_refl _) (hT.below hbA) (by intro x hx; rw [List.mem_singleton.1 hx]; decide) (by simp) (by simp) (by simp) (by simp)
  refine han.mono ?_
  clear han
  rintro e w5 ⟨A5, c5, R5, code5, rfl, hle5, hC5, hA5, hb5⟩
  obtain ⟨rfl, rfl⟩ := ans_F hA5
  have h35 := btrW h34 hb5
  have hbE := btrW hbA hb5
  have gpl := blk_below g1' hb5
  have p0 := blk_cell gpl 0
  have p1 := blk_cell gpl 1
  obtain ⟨ad, Ax, cx, rfl, hxc, hxle, hxC⟩ := kRows_at16 hC5 0 (by decide)
  obtain ⟨xd, cs, hxd, _, hK, hc0⟩ := Kd.C_get hxC zV 0 (by omega) (by decide)
  have hc : ∀ j u, cs[j]? = some u → w5.cell? (xd.add (0 * 4 + j)) = some u := hc0
  obtain rfl := k61_open hK
  have v2 : w5.cell? (xd.add 2) = some (.int .i64 4) := hc 2 _ rfl
  subst hxd
  rw [add_zero16] at hxc
  have hxl : ([rowF].getD 0 []).length = 1 := rfl
  rw [hxl] at hxc hxle
  have hmany := many_is 1 1 0 TA tc T0 PA pc P0 0 w5 (Kd.C_below hTC (btrW hb2 (btrW hb3 h35))) htc (Kd.C_below hPC (btrW hb2 (btrW hb3 h35))) hpc hpl hpq
  rw [hwy] at hmany
  have HMANY := Lib.hid hmany
  clear hmany hc hc0 hK hxC
  obtain ⟨y0, y1, y2, y3, y4⟩ := HBOX.out w5 (btrW hb3 h35)
  go_wp2_with fail
  refine HMANY.out.mono ?_
  rintro e w6 ⟨rfl, hb6⟩
  have hbF := btrW hbE hb6
  have p0 := pw_cell_below hb6 p0
  have p1 := pw_cell_below hb6 p1
  have hxc := pw_cell_below hb6 hxc
  have v2 := pw_cell_below hb6 v2
  have v2' : w6.cell? ⟨xd.block, xd.off + 2, none⟩ = some (.int .i64 4) := by
    have e : xd.add 2 = ⟨xd.block, xd.off + 2, none⟩ := by simp [Addr.add]
    rw [← e]; exact v2
  go_wp2_with fail
  go_ret
  exact ⟨rfl, hbF⟩
end Go.Proofs.YtihdlalbgdighaaDoor.QV
/- What hayloftref15.keys and agg tell, as printed; the document's groups in plain Lean. -/
namespace Go.Proofs.YtihdlalbgdighaaDoor.QV
open Go.RowKit Go.Proofs.YtihdlalbgdighaaDoorW.PrintWords Go.Proofs.YtihdlalbgdighaaDoor.Op Go.Proofs.YtihdlalbgdighaaDoor.Stab
set_option linter.unusedVariables false
set_option linter.unusedSimpArgs false
def keysS (by' : List Int) (rows : List Row) : List Row := rows.foldl (fun K r => insK K (pickS r by')) []
/-- The keys as the document has them: without columns there is just one group. -/
def keysD (by' : List Int) (rows : List Row) : List Row := if by' = [] then [[]] else keysS by' rows
theorem groups_keys (by' : List Int) (rows : List Row) : (groupsL by' rows).map (·.1) = keysD by' rows := by
  have gen : ∀ (l : List Row) (G : List Grp) (K : List Row), G.map (·.1) = K → (l.foldl (fun G r => addG G (pickS r by') r) G).map (·.1) = l.foldl (fun K r => insK K (pickS r by')) K := by
    intro l
    induction l with
    | nil => intro G K h; exact h
    | cons r l ih => intro G K h; exact ih _ _ (by rw [addG_keys, h])
  unfold keysD groupsL startG
  by_cases h : by' = []
  · subst h
    simp only [if_true]
    rw [gen rows _ [[]] rfl]
    have : ∀ (l : List Row), l.foldl (fun K r => insK K (pickS r [])) [[]] = [[]] := by
      intro l
      induction l with
      | nil => rfl
      | cons r l ih =>
        rw [List.foldl_cons]
        have : insK [[]] (pickS r []) = [[]] := by simp [insK, pickS, ordK, rowsV]
        rw [this, ih]
    exact this rows
  · simp only [if_neg h]
    exact gen rows [] [] rfl
theorem groupL_doc (by' : List Int) (aggs : List Ag) (rows : List Row) : groupL by' aggs rows = (keysD by' rows).map (fun k => k ++ aggs.map (fun a => toldS a (rows.filter (mineB by' k)))) := by
  unfold groupL
  rw [← groups_keys, List.map_map]
  refine List.map_congr_left (fun g hg => ?_)
  show g.1 ++ aggs.map (fun a => toldS a g.2) = g.1 ++ aggs.map (fun a => toldS a (rows.filter (mineB by' g.1)))
  rw [← (groupsL_inv by' rows).mine g hg]
end Go.Proofs.YtihdlalbgdighaaDoor.QV
/- value.Right, and the reference's: which values are right. -/
namespace Go.Proofs.YtihdlalbgdighaaDoor.Op
open Go.RowKit Go.Proofs.YtihdlalbgdighaaDoorW.PrintWords
set_option linter.unusedVariables false
set_option linter.unusedSimpArgs false

theorem null_any (w : World) : Calls Tryd.prog 77 #[] w fun e w' => e = .returned (V.val ⟨0, false, 0, ⟨#[]⟩⟩) ∧ Below w.heap.size w w' := by
  go_enter Tryd.func77, Tryd.ntmps77
  go_wp2
  go_returns
  exact ⟨rfl, below_alloc (Below.refl _ _) _⟩
attribute [local go_sem high] eqV
end Go.Proofs.YtihdlalbgdighaaDoor.Op
/- The orders of values and of rows are total; what is alike, of right values, is the same. Plain Lean. -/
namespace Go.Proofs.YtihdlalbgdighaaDoor.Op
set_option linter.unusedVariables false

theorem ba_ext {s t : ByteArray} (h : s.toList = t.toList) : s = t := by
  rw [Lib.toList_data, Lib.toList_data] at h
  cases s; cases t
  simpa using Array.toList_inj.1 h
theorem eqVB_iff {x y : V} : eqVB x y = true ↔ x = y := by
  unfold eqVB
  constructor
  · intro h
    simp only [Bool.and_eq_true, beq_iff_eq] at h
    exact V.ext h.1 h.2.1 h.2.2.1 (ba_ext h.2.2.2)
  · rintro rfl; simp
theorem right_cases {x : V} (h : rightV x = true) : x = ⟨0, false, 0, ⟨#[]⟩⟩ ∨ (∃ b, x = ⟨1, b, 0, ⟨#[]⟩⟩) ∨ (∃ i, x = ⟨2, false, i, ⟨#[]⟩⟩) ∨ (∃ s : ByteArray, s.size ≤ 64 ∧ x = ⟨3, false, 0, s⟩) := by
  unfold rightV at h
  split at h
  · exact .inl (eqVB_iff.1 h)
  · split at h
    · exact .inr (.inl ⟨_, eqVB_iff.1 h⟩)
    · split at h
      · exact .inr (.inr (.inl ⟨_, eqVB_iff.1 h⟩))
      · split at h
        · rw [Bool.and_eq_true] at h
          exact .inr (.inr (.inr ⟨_, by have := of_decide_eq_true h.2; omega, eqVB_iff.1 h.1⟩))
        · cases h
theorem cmpV_zero {x y : V} (hx : rightV x = true) (hy : rightV y = true) : cmpV x y = 0 ↔ x = y := by
  refine ⟨fun h => ?_, fun h => by rw [h]; exact cmpV_self y⟩
  have hk : x.k = y.k := by
    by_cases e : x.k = y.k
    · exact e
    · rw [cmpV_ne e, cmpI_zero] at h; exact h
  rcases right_cases hx with rfl | ⟨b, rfl⟩ | ⟨i, rfl⟩ | ⟨s, _, rfl⟩ <;> rcases right_cases hy with rfl | ⟨b', rfl⟩ | ⟨i', rfl⟩ | ⟨s', _, rfl⟩
  all_goals first | rfl | (exfalso; revert hk; simp; done) | skip
  · rw [cmpV_1 rfl rfl] at h
    revert h
    cases b <;> cases b' <;> simp
  · rw [cmpV_2 rfl rfl, cmpI_zero] at h
    simp only at h; rw [h]
  · rw [cmpV_3 rfl rfl, compareBytes_zero] at h
    have : s = s' := ba_ext (by rw [Lib.toList_data, Lib.toList_data]; exact h)
    rw [this]
theorem rowsV_swap : ∀ a b : List V, rowsV b a = -rowsV a b
  | [], [] => rfl
  | [], _ :: _ => rfl
  | _ :: _, [] => rfl
  | x :: xs, y :: ys => by
    rw [rowsV, rowsV, cmpV_swap]
    by_cases h : cmpV x y = 0
    · rw [if_pos h, if_pos (by omega), rowsV_swap]
    · rw [if_neg h, if_neg (by omega)]
theorem cmpV_zero_le {x y z : V} (h : cmpV x y = 0) : cmpV x z = cmpV y z := by
  have a1 := cmpV_trans x y z (by omega)
  have a2 := cmpV_trans y x z (by have := cmpV_swap x y; omega)
  have a3 := cmpV_trans z x y
  have a4 := cmpV_trans z y x
  have s1 := cmpV_swap x z
  have s2 := cmpV_swap y z
  have s3 := cmpV_swap x y
  have r1 := cmpV_range x z
  have r2 := cmpV_range y z
  omega
theorem cmpV_zero_ge {x y z : V} (h : cmpV x y = 0) : cmpV z x = cmpV z y := by
  rw [cmpV_swap x z, cmpV_swap y z, cmpV_zero_le h]
theorem rowsV_trans : ∀ a b c : List V, rowsV a b ≤ 0 → rowsV b c ≤ 0 → rowsV a c ≤ 0
  | [], _, [], _, _ => by rw [rowsV]; omega
  | [], _, _ :: _, _, _ => by rw [rowsV]; omega
  | _ :: _, [], _, h, _ => by rw [rowsV] at h; omega
  | _ :: _, _ :: _, [], _, h => by rw [rowsV] at h; omega
  | x :: xs, y :: ys, z :: zs, h1, h2 => by
    have ih := rowsV_trans xs ys zs
    rw [rowsV] at h1 h2 ⊢
    by_cases e1 : cmpV x y = 0
    · rw [if_pos e1] at h1
      rw [cmpV_zero_le e1]
      by_cases e2 : cmpV y z = 0
      · rw [if_pos e2] at h2 ⊢
        exact ih h1 h2
      · rw [if_neg e2] at h2 ⊢
        exact h2
    · rw [if_neg e1] at h1
      by_cases e2 : cmpV y z = 0
      · rw [if_neg (by rw [← cmpV_zero_ge e2]; exact e1), ← cmpV_zero_ge e2]
        exact h1
      · rw [if_neg e2] at h2
        have h3 := cmpV_trans x y z h1 h2
        split
        · rename_i h0
          exfalso
          have := cmpV_zero_le (z := y) h0
          have := cmpV_swap y z
          omega
        · exact h3
end Go.Proofs.YtihdlalbgdighaaDoor.Op
/- What is told of groups is told by parts, in plain Lean. -/
namespace Go.Proofs.YtihdlalbgdighaaDoor.QV
open Go.RowKit Go.Proofs.YtihdlalbgdighaaDoorW.PrintWords Go.Proofs.YtihdlalbgdighaaDoor.Op Go.Proofs.YtihdlalbgdighaaDoor.Stab
set_option linter.unusedVariables false
set_option linter.unusedSimpArgs false
def mergeV (a : Ag) (v w : S') : S' :=
  if v.f0 = 0 then w else if w.f0 = 0 then v else
    if a.f0 = 0 ∨ a.f0 = 1 then ⟨v.f0, v.f1, wrap64 (v.f2 + w.f2), v.f3⟩ else
      if a.f0 = 2 ∧ cmpV (toV w) (toV v) < 0 then w else if a.f0 = 3 ∧ 0 < cmpV (toV w) (toV v) then w else v
theorem wrap_wrap (a b : Int) : wrap64 (wrap64 a + b) = wrap64 (a + b) := by unfold wrap64; omega
def tot (l : List S') : Int := (l.map (·.f2)).sum
theorem sumV_tot : ∀ (l : List S') (n : Int), l ≠ [] → sumV n l = wrap64 (n + tot l)
  | [], n, h => absurd rfl h
  | [v], n, _ => by simp [sumV, tot]
  | v :: u :: l, n, _ => by
    have h := sumV_tot (u :: l) (wrap64 (n + v.f2)) (by simp)
    have e : sumV n (v :: u :: l) = sumV (wrap64 (n + v.f2)) (u :: l) := rfl
    rw [e, h, wrap_wrap]
    congr 1
    simp [tot]; omega
theorem minV_le : ∀ (l : List S') (m : S'), cmpV (toV (minV m l)) (toV m) ≤ 0
  | [], m => by rw [minV, cmpV_self]; omega
  | y :: l, m => by
    rw [minV]
    split
    · rename_i h
      exact cmpV_trans _ _ _ (minV_le l y) (by omega)
    · exact minV_le l m
theorem maxV_ge : ∀ (l : List S') (m : S'), 0 ≤ cmpV (toV (maxV m l)) (toV m)
  | [], m => by rw [maxV, cmpV_self]; omega
  | y :: l, m => by
    rw [maxV]
    split
    · rename_i h
      have := maxV_ge l y
      have := preV.swap (toV y) (toV m)
      have t := cmpV_trans (toV m) (toV y) (toV (maxV y l)) (by have := cmpV_swap (toV y) (toV m); omega) (by have := cmpV_swap (toV (maxV y l)) (toV y); omega)
      have := cmpV_swap (toV (maxV y l)) (toV m)
      omega
    · exact maxV_ge l m
theorem minV_mem : ∀ (l : List S') (m : S'), minV m l ∈ m :: l
  | [], m => by simp [minV]
  | y :: l, m => by
    rw [minV]
    split
    · exact List.mem_cons_of_mem _ (minV_mem l y)
    · rcases List.mem_cons.1 (minV_mem l m) with h | h
      · rw [h]; simp
      · simp [h]
theorem maxV_mem : ∀ (l : List S') (m : S'), maxV m l ∈ m :: l
  | [], m => by simp [maxV]
  | y :: l, m => by
    rw [maxV]
    split
    · exact List.mem_cons_of_mem _ (maxV_mem l y)
    · rcases List.mem_cons.1 (maxV_mem l m) with h | h
      · rw [h]; simp
      · simp [h]
end Go.Proofs.YtihdlalbgdighaaDoor.QV
/- HayloftSums, the plain law: two answers by groups, put together, are the answer. -/
namespace Go.Proofs.YtihdlalbgdighaaDoor.QV
open Go.RowKit Go.Proofs.YtihdlalbgdighaaDoorW.PrintWords Go.Proofs.YtihdlalbgdighaaDoor.Op Go.Proofs.YtihdlalbgdighaaDoor.Stab
set_option linter.unusedVariables false
set_option linter.unusedSimpArgs false
/-- Right values, right rows. -/
def okV (x : S') : Bool := rightV (toV x)
def okRow (l : Row) : Bool := l.all okV
theorem toV_inj' {x y : S'} (h : toV x = toV y) : x = y := by
  obtain ⟨a, b, c, d⟩ := x
  obtain ⟨a', b', c', d'⟩ := y
  simpa [toV] using h
theorem ordK_zero_eq : ∀ {a b : Row}, okRow a = true → okRow b = true → ordK a b = 0 → a = b
  | [], [], _, _, _ => rfl
  | [], _ :: _, _, _, h => by simp [ordK, rowsV] at h
  | _ :: _, [], _, _, h => by simp [ordK, rowsV] at h
  | x :: xs, y :: ys, ha, hb, h => by
    simp only [okRow, List.all_cons, Bool.and_eq_true] at ha hb
    unfold ordK at h
    rw [List.map_cons, List.map_cons, rowsV] at h
    by_cases hc : cmpV (toV x) (toV y) = 0
    · rw [if_pos hc] at h
      rw [toV_inj' ((cmpV_zero ha.1 hb.1).1 hc), ordK_zero_eq ha.2 hb.2 h]
    · rw [if_neg hc] at h; exact absurd h hc
theorem ordK_self (a : Row) : ordK a a = 0 := by have := preK.swap a a; omega
theorem okV_zero : okV zV = true := by
  unfold okV rightV
  rw [if_pos (show (toV zV).k = 0 from rfl)]
  exact eqVB_iff.2 rfl
theorem okV_null : okV (⟨0, false, 0, ⟨#[]⟩⟩ : S') = true := okV_zero
theorem atS_ok {x : Row} (h : okRow x = true) (n : Int) : okV (atS x n) = true := by
  unfold atS
  split
  · exact okV_null
  · split
    · exact okV_null
    · exact List.all_eq_true.1 h _ (getD_mem _ (by omega))
theorem pickS_ok {x : Row} (h : okRow x = true) (cs : List Int) : okRow (pickS x cs) = true := by
  unfold pickS okRow
  rw [List.all_map, List.all_eq_true]
  intro n _
  exact atS_ok h n
/-- Which keys there are. -/
theorem keys_of {by' : List Int} {Z : List Row} (hZ : ∀ x ∈ Z, okRow x = true) (k : Row) : k ∈ keysD by' Z ↔ (by' = [] ∧ k = []) ∨ (by' ≠ [] ∧ ∃ r ∈ Z, pickS r by' = k) := by
  have gen : ∀ (l : List Row) (K : List Row) (k : Row), k ∈ l.foldl (fun K r => insK K (pickS r by')) K → k ∈ K ∨ ∃ r ∈ l, pickS r by' = k := by
    intro l
    induction l with
    | nil => intro K k h; exact .inl h
    | cons r l ih =>
      intro K k h
      rcases ih _ k h with h | ⟨x, hx, e⟩
      · rcases insK_mem h with h | h
        · exact .inr ⟨r, by simp, h.symm⟩
        · exact .inl h
      · exact .inr ⟨x, by simp [hx], e⟩
  by_cases hb : by' = []
  · unfold keysD
    rw [if_pos hb]
    simp [hb]
  · constructor
    · intro h
      unfold keysD keysS at h
      rw [if_neg hb] at h
      rcases gen Z [] k h with h | h
      · simp at h
      · exact .inr ⟨hb, h⟩
    · rintro (h | ⟨_, r, hr, rfl⟩)
      · exact absurd h.1 hb
      · obtain ⟨g, hg, hz⟩ := (groupsL_inv by' Z).cover r hr
        have hk : g.1 ∈ keysD by' Z := by rw [← groups_keys]; exact List.mem_map_of_mem hg
        have hok : okRow g.1 = true := by
          have h2 := hk
          unfold keysD keysS at h2
          rw [if_neg hb] at h2
          rcases gen Z [] g.1 h2 with h2 | ⟨y, hy, e⟩
          · simp at h2
          · rw [← e]; exact pickS_ok (hZ y hy) by'
        rw [ordK_zero_eq (pickS_ok (hZ r hr) by') hok hz]
        exact hk
theorem keys_ok {by' : List Int} {Z : List Row} (hZ : ∀ x ∈ Z, okRow x = true) {k : Row} (h : k ∈ keysD by' Z) : okRow k = true := by
  rcases (keys_of hZ k).1 h with ⟨_, rfl⟩ | ⟨_, r, hr, rfl⟩
  · rfl
  · exact pickS_ok (hZ r hr) by'
theorem keys_nodup (by' : List Int) (Z : List Row) : (keysD by' Z).Nodup := by
  have h := (groupsL_inv by' Z).rise
  rw [groups_keys] at h
  exact h.imp (fun {a b} hlt e => by rw [e, ordK_self] at hlt; omega)
/-- Two rows of groups, put together. -/
def summedL (n : Nat) (aggs : List Ag) (a b : Row) : Row := a.take n ++ (List.range aggs.length).map (fun i => mergeV (aggs.getD i z99) (a.getD (n + i) zV) (b.getD (n + i) zV))
def sameK (n : Nat) (r o : Row) : Bool := eqRow (r.take n) (o.take n)
/-- A row, and all of b that has its key. -/
def merged (n : Nat) (aggs : List Ag) (b : List Row) (r : Row) : Row := b.foldl (fun row o => if sameK n row o then summedL n aggs row o else row) r
end Go.Proofs.YtihdlalbgdighaaDoor.QV
/- PlanOrders, the plain law: an answer does not see the order of its rows, if all values are right. -/
namespace Go.Proofs.YtihdlalbgdighaaDoor.QV
open Go.RowKit Go.Proofs.YtihdlalbgdighaaDoorW.PrintWords Go.Proofs.YtihdlalbgdighaaDoor.Op Go.Proofs.YtihdlalbgdighaaDoor.Stab
set_option linter.unusedVariables false
set_option linter.unusedSimpArgs false
theorem ordS_zero : ∀ (l : List Ord) {a b : Row}, okRow a = true → okRow b = true → ordS l a b = 0 → a = b
  | [], a, b, ha, hb, h => ordK_zero_eq ha hb h
  | o :: l, a, b, ha, hb, h => by
    rw [ordS] at h
    by_cases hz : (if o.f1 then -cmpV (toV (atS a o.f0)) (toV (atS b o.f0)) else cmpV (toV (atS a o.f0)) (toV (atS b o.f0))) ≠ 0
    · rw [if_pos hz] at h; exact absurd h hz
    · rw [if_neg hz] at h; exact ordS_zero l ha hb h
theorem sorted_uniq {f : Row → Row → Int} (h : Pre f) : ∀ {l l' : List Row}, l.Perm l' → l.Pairwise (fun x y => f x y ≤ 0) → l'.Pairwise (fun x y => f x y ≤ 0) → (∀ x ∈ l, ∀ y ∈ l, f x y = 0 → x = y) → l = l'
  | [], l', hp, _, _, _ => by rw [List.nil_perm.1 hp]
  | x :: l, [], hp, _, _, _ => by have := hp.length_eq; simp at this
  | x :: l, y :: l', hp, h1, h2, h0 => by
    have hxy : x = y := by
      refine Classical.byContradiction fun hne => ?_
      have hy : y ∈ l := by
        have : y ∈ x :: l := hp.mem_iff.2 (by simp)
        rcases List.mem_cons.1 this with e | e
        · exact absurd e.symm hne
        · exact e
      have hx : x ∈ l' := by
        have : x ∈ y :: l' := hp.mem_iff.1 (by simp)
        rcases List.mem_cons.1 this with e | e
        · exact absurd e hne
        · exact e
      have a1 := (List.pairwise_cons.1 h1).1 y hy
      have a2 := (List.pairwise_cons.1 h2).1 x hx
      have := (h.le y x).1 a2
      exact hne (h0 x (by simp) y (by simp [hy]) (by omega))
    subst hxy
    rw [sorted_uniq h ((List.perm_cons x).1 hp) (List.pairwise_cons.1 h1).2 (List.pairwise_cons.1 h2).2 (fun a ha b hb => h0 a (by simp [ha]) b (by simp [hb]))]
theorem okRow_app (a b : Row) : okRow (a ++ b) = (okRow a && okRow b) := by unfold okRow; rw [List.all_append]
theorem joinOne_perm {lo ro : Int} {R R' : List Row} (h : R'.Perm R) (a : Row) : (joinOne lo ro (R'.filter (nzB ro)) a).Perm (joinOne lo ro (R.filter (nzB ro)) a) := by
  unfold joinOne
  split
  · exact List.Perm.refl _
  · exact ((h.filter _).filter _).map _
theorem flat_perm {α β : Type} {f g : α → List β} : ∀ (l : List α), (∀ a ∈ l, (f a).Perm (g a)) → (l.flatMap f).Perm (l.flatMap g)
  | [], _ => List.Perm.refl _
  | x :: l, h => by
    rw [List.flatMap_cons, List.flatMap_cons]
    exact (h x (by simp)).append (flat_perm l (fun a ha => h a (by simp [ha])))
theorem flat_perm2 {α β : Type} (f : α → List β) {l l' : List α} (h : l'.Perm l) : (l'.flatMap f).Perm (l.flatMap f) := by
  induction h with
  | nil => exact List.Perm.refl _
  | cons x _ ih => rw [List.flatMap_cons, List.flatMap_cons]; exact (List.Perm.refl _).append ih
  | swap x y l =>
    rw [List.flatMap_cons, List.flatMap_cons, List.flatMap_cons, List.flatMap_cons, ← List.append_assoc, ← List.append_assoc]
    exact List.perm_append_comm.append (List.Perm.refl _)
  | trans _ _ a b => exact a.trans b
theorem joinL_perm {L L' R R' : List Row} (hL : L'.Perm L) (hR : R'.Perm R) (lo ro : Int) : (joinL L' R' lo ro).Perm (joinL L R lo ro) :=
  (flat_perm2 _ hL).trans (flat_perm _ (fun a _ => joinOne_perm hR a))
theorem joinL_ok {L R : List Row} (hL : ∀ x ∈ L, okRow x = true) (hR : ∀ x ∈ R, okRow x = true) (lo ro : Int) : ∀ x ∈ joinL L R lo ro, okRow x = true := by
  intro x hx
  unfold joinL joinOne at hx
  rw [List.mem_flatMap] at hx
  obtain ⟨a, ha, hx⟩ := hx
  split at hx
  · simp at hx
  · obtain ⟨b, hb, rfl⟩ := List.mem_map.1 hx
    rw [okRow_app, hL a ha, hR b (List.mem_filter.1 (List.mem_filter.1 hb).1).1]; rfl
theorem tot_perm {l l' : List S'} (h : l.Perm l') : tot l = tot l' := by
  unfold tot
  induction h with
  | nil => rfl
  | cons x _ ih => simp only [List.map_cons, List.sum_cons, ih]
  | swap x y l => simp only [List.map_cons, List.sum_cons]; omega
  | trans _ _ a b => exact a.trans b
theorem minV_all : ∀ (l : List S') (m v : S'), v ∈ m :: l → cmpV (toV (minV m l)) (toV v) ≤ 0
  | [], m, v, h => by
    rcases List.mem_cons.1 h with rfl | h
    · exact minV_le [] v
    · simp at h
  | y :: l, m, v, h => by
    rw [minV]
    rcases List.mem_cons.1 h with rfl | h
    · exact minV_le (y :: l) v
    · split
      · exact minV_all l y v h
      · rename_i hn
        rcases List.mem_cons.1 h with rfl | h
        · have a := minV_le l m
          have b : cmpV (toV m) (toV v) ≤ 0 := by have := cmpV_swap (toV v) (toV m); omega
          exact cmpV_trans _ _ _ a b
        · exact minV_all l m v (by simp [h])
theorem maxV_all : ∀ (l : List S') (m v : S'), v ∈ m :: l → cmpV (toV v) (toV (maxV m l)) ≤ 0
  | [], m, v, h => by
    rcases List.mem_cons.1 h with rfl | h
    · have := maxV_ge [] v; have := cmpV_swap (toV (maxV v [])) (toV v); omega
    · simp at h
  | y :: l, m, v, h => by
    have e : ∀ n, cmpV (toV n) (toV (maxV n l)) ≤ 0 := fun n => by have := maxV_ge l n; have := cmpV_swap (toV (maxV n l)) (toV n); omega
    rw [maxV]
    rcases List.mem_cons.1 h with rfl | h
    · split
      · rename_i hlt
        exact cmpV_trans _ (toV y) _ (by have := cmpV_swap (toV y) (toV v); omega) (e y)
      · exact e v
    · split
      · exact maxV_all l y v h
      · rename_i hn
        rcases List.mem_cons.1 h with rfl | h
        · exact cmpV_trans _ (toV m) _ (by omega) (e m)
        · exact maxV_all l m v (by simp [h])
theorem okV_eq {x y : S'} (hx : okV x = true) (hy : okV y = true) (h1 : cmpV (toV x) (toV y) ≤ 0) (h2 : cmpV (toV y) (toV x) ≤ 0) : x = y := by
  have h := cmpV_swap (toV x) (toV y)
  exact toV_inj' ((cmpV_zero hx hy).1 (by omega))
theorem okV_num (n : Int) : okV (numV n) = true := by
  unfold okV rightV
  have h : (toV (numV n)).k = 2 := rfl
  rw [h, if_neg (by omega), if_neg (by omega), if_pos rfl]
  exact eqVB_iff.2 rfl
theorem seen_ok {a : Ag} {xs : List Row} (h : ∀ x ∈ xs, okRow x = true) : ∀ v ∈ seenL a xs, okV v = true := by
  intro v hv
  obtain ⟨r, hr, rfl⟩ := List.mem_map.1 (List.mem_filter.1 hv).1
  exact atS_ok (h r hr) _
theorem told_form (a : Ag) (zs : List Row) : toldS a zs = if a.f0 = 0 then numV zs.length else match seenL a zs with | [] => zV | x :: l => if a.f0 < 0 then zV else if 3 < a.f0 then zV else if a.f0 = 2 then minV x l else if a.f0 = 3 then maxV x l else numV (sumV 0 (x :: l)) := rfl
theorem told_ok {a : Ag} {zs : List Row} (h : ∀ x ∈ zs, okRow x = true) : okV (toldS a zs) = true := by
  have hs := seen_ok (a := a) h
  rw [told_form]
  split
  · exact okV_num _
  · generalize seenL a zs = L at *
    cases L with
    | nil => exact okV_zero
    | cons x l =>
      simp only
      split
      · exact okV_zero
      · split
        · exact okV_zero
        · split
          · exact hs _ (minV_mem l x)
          · split
            · exact hs _ (maxV_mem l x)
            · exact okV_num _
theorem toldS_perm (a : Ag) {xs ys : List Row} (h : xs.Perm ys) (hx : ∀ x ∈ xs, okRow x = true) : toldS a xs = toldS a ys := by
  have hs := seen_ok (a := a) hx
  have hp : (seenL a xs).Perm (seenL a ys) := (h.map _).filter _
  rw [told_form, told_form, h.length_eq]
  by_cases h0 : a.f0 = 0
  · rw [if_pos h0, if_pos h0]
  · rw [if_neg h0, if_neg h0]
    generalize seenL a xs = L at *
    generalize seenL a ys = M at *
    cases L with
    | nil => rw [List.nil_perm.1 hp]
    | cons x l =>
      cases M with
      | nil => have := hp.length_eq; simp at this
      | cons y k =>
        simp only
        have hs' : ∀ v ∈ y :: k, okV v = true := fun v hv => hs v (hp.mem_iff.2 hv)
        have e1 : minV x l = minV y k := okV_eq (hs _ (minV_mem l x)) (hs' _ (minV_mem k y)) (minV_all l x _ (hp.mem_iff.2 (minV_mem k y))) (minV_all k y _ (hp.mem_iff.1 (minV_mem l x)))
        have e2 : maxV x l = maxV y k := okV_eq (hs _ (maxV_mem l x)) (hs' _ (maxV_mem k y)) (maxV_all k y _ (hp.mem_iff.1 (maxV_mem l x))) (maxV_all l x _ (hp.mem_iff.2 (maxV_mem k y)))
        have e3 : sumV 0 (x :: l) = sumV 0 (y :: k) := by rw [sumV_tot _ _ (by simp), sumV_tot _ _ (by simp), tot_perm hp]
        rw [e1, e2, e3]
theorem groupL_perm (by' : List Int) (aggs : List Ag) {Z Z' : List Row} (h : Z'.Perm Z) (hZ : ∀ x ∈ Z, okRow x = true) : groupL by' aggs Z' = groupL by' aggs Z := by
  have hZ' : ∀ x ∈ Z', okRow x = true := fun x hx => hZ x (h.mem_iff.1 hx)
  have hk : keysD by' Z' = keysD by' Z := by
    refine sorted_uniq preK ((List.perm_ext_iff_of_nodup (keys_nodup by' Z') (keys_nodup by' Z)).2 (fun k => ?_)) ?_ ?_ (fun x hx y hy e => ordK_zero_eq (keys_ok hZ' hx) (keys_ok hZ' hy) e)
    · rw [keys_of hZ', keys_of hZ]
      simp only [h.mem_iff]
    · have := (groupsL_inv by' Z').rise
      rw [groups_keys] at this
      exact this.imp (fun {a b} q => by omega)
    · have := (groupsL_inv by' Z).rise
      rw [groups_keys] at this
      exact this.imp (fun {a b} q => by omega)
  rw [groupL_doc, groupL_doc, hk]
  refine List.map_congr_left (fun k _ => ?_)
  congr 1
  refine List.map_congr_left (fun a _ => ?_)
  exact toldS_perm a (h.filter _) (fun x hx => hZ' x (List.mem_filter.1 hx).1)
theorem groupL_ok (by' : List Int) (aggs : List Ag) {Z : List Row} (hZ : ∀ x ∈ Z, okRow x = true) : ∀ x ∈ groupL by' aggs Z, okRow x = true := by
  intro x hx
  rw [groupL_doc] at hx
  obtain ⟨k, hk, rfl⟩ := List.mem_map.1 hx
  rw [okRow_app, keys_ok hZ hk, Bool.true_and]
  unfold okRow
  rw [List.all_map, List.all_eq_true]
  intro a _
  exact told_ok (fun y hy => hZ y (List.mem_filter.1 hy).1)
theorem outQ_perm (q : Qy) {Z Z' : List Row} (h : Z'.Perm Z) (hZ : ∀ x ∈ Z, okRow x = true) : (outQ q Z').Perm (outQ q Z) := by
  unfold outQ
  split
  · rw [groupL_perm q.byc q.aggs (h.filter _) (fun x hx => hZ x (List.mem_filter.1 hx).1)]
  · exact (h.filter _).map _
theorem outQ_ok (q : Qy) {Z : List Row} (hZ : ∀ x ∈ Z, okRow x = true) : ∀ x ∈ outQ q Z, okRow x = true := by
  unfold outQ
  split
  · exact groupL_ok q.byc q.aggs (fun x hx => hZ x (List.mem_filter.1 hx).1)
  · intro x hx
    obtain ⟨y, hy, rfl⟩ := List.mem_map.1 hx
    exact pickS_ok (hZ y (List.mem_filter.1 hy).1) _
/-- AN ANSWER DOES NOT SEE THE ORDER OF ITS ROWS. -/
theorem ans_perm {q : Qy} {L L' R R' A A' : List Row} {c c' : Int} (hL : L'.Perm L) (hR : R'.Perm R) (okL : ∀ x ∈ L, okRow x = true) (okR : ∀ x ∈ R, okRow x = true) (h : Ans q L R A c) (h' : Ans q L' R' A' c') : A' = A ∧ c' = c := by
  have hj := joinL_perm hL hR q.lo q.ro
  have hr : (rowsQ q L R = none ∧ rowsQ q L' R' = none) ∨ ∃ Z Z', rowsQ q L R = some Z ∧ rowsQ q L' R' = some Z' ∧ Z'.Perm Z ∧ ∀ x ∈ Z, okRow x = true := by
    unfold rowsQ
    by_cases hq : q.join = true
    · rw [if_pos hq, if_pos hq, hj.length_eq]
      by_cases hm : 65536 < (joinL L R q.lo q.ro).length
      · rw [if_pos hm, if_pos hm]; exact .inl ⟨rfl, rfl⟩
      · rw [if_neg hm, if_neg hm]; exact .inr ⟨_, _, rfl, rfl, hj, joinL_ok okL okR _ _⟩
    · rw [if_neg hq, if_neg hq]; exact .inr ⟨_, _, rfl, rfl, hL, okL⟩
  unfold Ans at h h'
  rcases hr with ⟨h1, h2⟩ | ⟨Z, Z', h1, h2, hp, hok⟩
  · rw [h1] at h; rw [h2] at h'
    exact ⟨h'.1.trans h.1.symm, h'.2.trans h.2.symm⟩
  · rw [h1] at h; rw [h2] at h'
    have ho := outQ_perm q hp hok
    simp only at h h'
    rw [ho.length_eq] at h'
    rcases h with ⟨a1, a2, a3⟩ | ⟨a1, a2, R0, a3, a4⟩ <;> rcases h' with ⟨b1, b2, b3⟩ | ⟨b1, b2, R1, b3, b4⟩
    · exact ⟨b2.trans a2.symm, b3.trans a3.symm⟩
    · omega
    · omega
    · have : R1 = R0 := sorted_uniq (preOrd q.ord) (b3.perm.trans (ho.trans a3.perm.symm)) b3.sorted a3.sorted (fun x hx y hy e => ordS_zero q.ord (outQ_ok q hok x (ho.mem_iff.1 (b3.perm.mem_iff.1 hx))) (outQ_ok q hok y (ho.mem_iff.1 (b3.perm.mem_iff.1 hy))) e)
      exact ⟨by rw [b4, a4, this], b2.trans a2.symm⟩
end Go.Proofs.YtihdlalbgdighaaDoor.QV
/- hayloftlaw16.turned, walked. -/
namespace Go.Proofs.YtihdlalbgdighaaDoor.QV
open Go.RowKit Go.Proofs.YtihdlalbgdighaaDoorW.PrintWords Go.Proofs.YtihdlalbgdighaaDoor.SeqW Go.Shelf Go.Proofs.YtihdlalbgdighaaDoor.Op Go.Proofs.YtihdlalbgdighaaDoor.Stab
set_option linter.unusedVariables false
set_option linter.unusedSimpArgs false
set_option maxRecDepth 100000
attribute [local go_sem] Oper.semAt_some
theorem heapS16 : Kd.Heap kS := Kd.heap_iso _ (Kd.heap_pair (Kd.heap_int _) (Kd.heap_pair Kd.heap_bool (Kd.heap_pair (Kd.heap_int _) Kd.heap_string)))
theorem rev_snoc (rows : List Row) (i : Nat) (hi : i < rows.length) : rows.reverse.take (i + 1) = rows.reverse.take i ++ [rows.getD (rows.length - 1 - i) []] := by
  have h := take_snoc' ([] : Row) rows.reverse i (by simpa using hi)
  rw [← h, List.getD_eq_getElem?_getD, List.getD_eq_getElem?_getD, List.getElem?_reverse hi]
set_option maxHeartbeats 8000000 in
theorem turned_any (A0 : Option Addr) (c0 : Nat) (rows : List Row) (w : World) (H0 : kRows.C w A0 rows.length rows) (C0 : rows.length ≤ c0) (n0 : rows.length ≤ 1048576) :
    Calls Tryd.prog 7 #[.slice A0 rows.length c0] w fun e w' => (e = .returned (.tuple #[.slice none 0 0, .bool false]) ∨ ∃ (A : Option Addr) (c : Nat), e = .returned (.tuple #[.slice A rows.length c, .bool true]) ∧ rows.length ≤ c ∧ kRows.C w' A rows.length rows.reverse ∧ ∀ x ∈ rows, okRow x = true) ∧ Below w.heap.size w w' := by
  have hm0 := H0.2.1
  go_enter Tryd.func7, Tryd.ntmps7
  go_wp2_with fail
  go_loopw [4, 10] (fun ov iv wr => ∃ (i : Nat), iv = .int .i64 (i : Int) ∧ i ≤ rows.length ∧ Kd.N kRows tRow wr w.heap.size (fun _ => True) ov (rows.reverse.take i) ∧ (∀ x ∈ rows.take i, okRow x = true) ∧ Below w.heap.size w wr) (fun _ iv _ => rows.length - (intOf iv).toNat)
  case atStart => exact ⟨0, rfl, Nat.zero_le _, Kd.N_nil _ _ _ _ _, by simp, Below.refl _ _⟩
  case round =>
    obtain ⟨i, rfl, hi, hN, hok, hB⟩ := hrel
    obtain ⟨WR, rfl⟩ : ∃ WR, WR = wr := ⟨_, rfl⟩
    by_cases hlt : i < rows.length
    · have hltz : (i : Int) < (rows.length : Int) := by omega
      obtain ⟨ad, Ar, cr, rfl, hrc0, hrle, hrC⟩ := kRows_at16 H0 (rows.length - 1 - i) (by omega)
      obtain ⟨yd, Ay, cy, hyd, hyc0, hyle, hyC⟩ := kRows_at16 H0 i hlt
      injection hyd with hyd
      subst hyd
      have hrc := pw_cell_below hB hrc0
      have hyc := pw_cell_below hB hyc0
      have hsn := rev_snoc rows i hlt
      have hts := take_snoc' ([] : Row) rows i hlt
      have hPl : (rows.reverse.take i).length ≤ 1048576 := by rw [List.length_take, List.length_reverse]; omega
      have hFK : Kd.FK kRows WR (fun k => k < w.heap.size) (rows.getD (rows.length - 1 - i) []) [.slice Ar (rows.getD (rows.length - 1 - i) []).length cr] := Kd.FK_slice_mk hrle (Kd.F_below (Kd.C_F heapS16 hrC) hB)
      generalize rows.getD (rows.length - 1 - i) [] = x at *
      generalize rows.getD i [] = y at *
      have HSN := Lib.hid (And.intro hsn (And.intro hts hok))
      clear hsn hts hok
      generalize rows.reverse.take i = P at *
      have hmy := hyC.2.1
      have hzB := hB.size
      obtain ⟨m, hm⟩ : ∃ m, rows.length - 1 - i = m := ⟨_, rfl⟩
      rw [hm] at hrc hrc0
      have hmz : (rows.length : Int) - 1 - (i : Int) = (m : Int) := by omega
      have hm1 : (0 : Int) ≤ (m : Int) := by omega
      have hm2 : (m : Int) < (rows.length : Int) := by omega
      have hw1 : IntKind.i64.wrap ((rows.length : Int) - 1) = (rows.length : Int) - 1 := by rw [IntKind.wrap_i64]; omega
      have hw2 : IntKind.i64.wrap (m : Int) = (m : Int) := by rw [IntKind.wrap_i64]; omega
      have hw3 : IntKind.i64.wrap ((rows.length : Int) - 1 - (i : Int)) = (m : Int) := by rw [IntKind.wrap_i64]; omega
      clear hm hrc0
      go_wp2_with (at_builtin; refine Kd.N_append kRows (w0 := w) w.heap.size rfl (.tmp 13) (.tmp 22) 28 62 _ 24 rfl Tryd.underlying28 infoRow rfl (by decide) (by decide) u4 P x [.slice Ar x.length cr] (fun _ => True) (fun k => k < w.heap.size) rfl rfl hFK (fun k hk => ⟨trivial, fun e => by have h1 := Kd.N_base hN k e.symm; omega⟩) (fun _ _ => trivial) hN hB hzB (by omega) ?_; intro v1 w7 hN7 hB7 hg7 hat7; clear hg7 hat7; have hyc7 := pw_cell_below hB7 hyc0; clear hyc hrc)
      go_loopw [29] (fun jv V => ∃ (j : Nat), jv = .int .i64 (j : Int) ∧ j ≤ y.length ∧ okRow (y.take j) = true ∧ Below w7.heap.size w7 V) (fun jv _ => y.length - (intOf jv).toNat)
      case atStart => exact ⟨0, rfl, Nat.zero_le _, rfl, Below.refl _ _⟩
      case round =>
        obtain ⟨j, rfl, hj, hokj, hBj⟩ := hrel
        have hbwj : Below w.heap.size w wr := hB7.trans (hBj.mono hB7.size)
        by_cases hjl : j < y.length
        · have hjz : (j : Int) < (y.length : Int) := by omega
          obtain ⟨xd, hxd, q0, q1, q2, q3⟩ := kS_atV (Kd.C_below hyC hbwj) j hjl
          have htj := take_snoc' zV y j hjl
          generalize y.getD j zV = v at *
          obtain ⟨v0, va, v2, v3⟩ := v
          simp only at q0 q1 q2 q3
          subst hxd
          obtain ⟨b, hb⟩ : ∃ b, rightV ⟨v0, va, v2, v3⟩ = b := ⟨_, rfl⟩
          have HB := Lib.hid (And.intro hb (And.intro htj hokj))
          clear hb htj hokj
          go_wp2_with fail
          refine (hayloftref02_Right.calls v0 va v2 v3 b _ (by rw [← HB.out.1]; rfl)).mono ?_
          rintro e w5 ⟨rfl, hb5⟩
          have hb5' : Below wr.heap.size wr w5 := (below_alloc (Below.refl _ wr) _).trans (hb5.mono (by simp))
          cases b with
          | false =>
            go_wp2_with fail
            go_ret2
            exact ⟨.inl rfl, hbwj.trans (hb5'.mono hbwj.size)⟩
          | true =>
            go_wp2_with fail
            go_roundw
            case rel =>
              refine ⟨j + 1, by go_num, by omega, ?_, hBj.trans (hb5'.mono hBj.size)⟩
              rw [← HB.out.2.1, okRow_app, HB.out.2.2, Bool.true_and]
              unfold okRow
              simp only [List.all_cons, List.all_nil, Bool.and_true]
              exact HB.out.1
            case measure => simp [intOf]; omega
        · obtain rfl : j = y.length := by omega
          rw [List.take_length] at hokj
          have HJ := Lib.hid hokj
          clear hokj
          have hN8 := Kd.N_below hN7 hBj
          go_wp2_with fail
          go_roundw
          case rel =>
            refine ⟨i + 1, by go_num, by omega, by rw [HSN.out.1]; exact hN8, fun z hz => ?_, hbwj⟩
            rw [← HSN.out.2.1] at hz
            rcases List.mem_append.1 hz with h | h
            · exact HSN.out.2.2 z h
            · rw [List.mem_singleton.1 h]; exact HJ.out
          case measure => simp [intOf]; omega
    · obtain rfl : i = rows.length := by omega
      rw [List.take_length] at hok
      have hrl : rows.reverse.take rows.length = rows.reverse := List.take_of_length_le (by simp)
      rw [hrl] at hN
      obtain ⟨A, c, hov, hle, hC⟩ := Kd.N_reads hN
      rw [List.length_reverse] at hov hle hC
      subst hov
      clear hrl
      go_wp2_with fail
      go_ret2
      exact ⟨.inr ⟨A, c, rfl, hle, hC, hok⟩, hB⟩
end Go.Proofs.YtihdlalbgdighaaDoor.QV
/- PlanOrders: the walk. -/
namespace Go.Proofs.YtihdlalbgdighaaDoor.QV
open Go.RowKit Go.Proofs.YtihdlalbgdighaaDoorW.PrintWords Go.Proofs.YtihdlalbgdighaaDoor.SeqW Go.Shelf Go.Proofs.YtihdlalbgdighaaDoor.Op Go.Proofs.YtihdlalbgdighaaDoor.Stab
set_option linter.unusedVariables false
set_option linter.unusedSimpArgs false
set_option maxRecDepth 100000
attribute [local go_sem] Oper.semAt_some
set_option maxHeartbeats 8000000 in
theorem walkPOrders (q : Qy) (u : Array Value) (LA : Option Addr) (lc : Nat) (left : List Row) (RA : Option Addr) (rc : Nat) (right : List Row) (w : World) (hq : QAt w q u) (hs : QSmall q)
    (hL : kRows.C w LA left.length left) (hLc : left.length ≤ lc) (hR : kRows.C w RA right.length right) (hRc : right.length ≤ rc) (hT : Tab w)
    (hlr : ∀ x ∈ left, x.length ≤ 1048576) (hrr : ∀ x ∈ right, x.length ≤ 1048576) (hj : ∀ x ∈ left, ∀ y ∈ right, x.length + y.length ≤ 1048576) (hl : left.length ≤ 1048576) (hr : right.length ≤ 1048576) :
    Calls Tryd.prog 3 #[.agg u, .slice LA left.length lc, .slice RA right.length rc] w fun e w' => e = .returned (.bool true) ∧ Below w.heap.size w w' := by
  have hsq : left.length * right.length ≤ 1048576 * 1048576 := Nat.mul_le_mul hl hr
  obtain ⟨pr, hpr⟩ : ∃ pr : Nat, left.length * right.length = pr := ⟨_, rfl⟩
  rw [hpr] at hsq
  have hprz : (left.length : Int) * (right.length : Int) = (pr : Int) := by rw [← hpr]; simp
  have hwp : IntKind.i64.wrap (pr : Int) = (pr : Int) := by rw [IntKind.wrap_i64]; omega
  have hwp2 : IntKind.i64.wrap ((left.length : Int) * (right.length : Int)) = (pr : Int) := by rw [hprz, hwp]
  have HQ := Lib.hid hq
  obtain ⟨tbl, rgt, wA, wn, cA, cc, bA, bc, gA, gc, oA, oc, rfl, _⟩ := hq.ex
  clear hq hpr
  obtain ⟨w1, hw1⟩ : ∃ w1, w.alloc (.cells #[.int .i64 tbl, .bool q.join, .int .i64 rgt, .int .i64 q.lo, .int .i64 q.ro, .slice wA q.wh.length wn, .slice cA q.cols.length cc, .bool q.grp, .slice bA q.byc.length bc, .slice gA q.aggs.length gc, .slice oA q.ord.length oc, .int .i64 q.lim] 27) = w1 := ⟨_, rfl⟩
  have hb1 : Below w.heap.size w w1 := by rw [← hw1]; exact below_alloc (Below.refl _ _) _
  have gq : w1.heap[w.heap.size]? = some (.cells #[.int .i64 tbl, .bool q.join, .int .i64 rgt, .int .i64 q.lo, .int .i64 q.ro, .slice wA q.wh.length wn, .slice cA q.cols.length cc, .bool q.grp, .slice bA q.byc.length bc, .slice gA q.aggs.length gc, .slice oA q.ord.length oc, .int .i64 q.lim] 27 (0, 0)) := by rw [← hw1]; exact blk_new _ _
  have hbox : ∀ V, Below w1.heap.size w1 V → (V.cell? ⟨w.heap.size, 0, none⟩ = some (.int .i64 tbl) ∧ V.cell? ⟨w.heap.size, 1, none⟩ = some (.bool q.join) ∧ V.cell? ⟨w.heap.size, 2, none⟩ = some (.int .i64 rgt) ∧ V.cell? ⟨w.heap.size, 3, none⟩ = some (.int .i64 q.lo) ∧ V.cell? ⟨w.heap.size, 4, none⟩ = some (.int .i64 q.ro) ∧ V.cell? ⟨w.heap.size, 5, none⟩ = some (.slice wA q.wh.length wn)) ∧ (V.cell? ⟨w.heap.size, 6, none⟩ = some (.slice cA q.cols.length cc) ∧ V.cell? ⟨w.heap.size, 7, none⟩ = some (.bool q.grp) ∧ V.cell? ⟨w.heap.size, 8, none⟩ = some (.slice bA q.byc.length bc) ∧ V.cell? ⟨w.heap.size, 9, none⟩ = some (.slice gA q.aggs.length gc) ∧ V.cell? ⟨w.heap.size, 10, none⟩ = some (.slice oA q.ord.length oc) ∧ V.cell? ⟨w.heap.size, 11, none⟩ = some (.int .i64 q.lim)) := fun V hV => by
    have g := blk_below gq hV
    exact ⟨⟨blk_cell g 0, blk_cell g 1, blk_cell g 2, blk_cell g 3, blk_cell g 4, blk_cell g 5⟩, blk_cell g 6, blk_cell g 7, blk_cell g 8, blk_cell g 9, blk_cell g 10, blk_cell g 11⟩
  have HBOX := Lib.hid hbox
  clear hbox gq
  go_enter Tryd.func3, Tryd.ntmps3
  by_cases hbig : (1000000 : Int) < (pr : Int)
  · go_wp2_with fail
    clear hw1
    refine (alive16_any w1 (hT.below hb1)).mono ?_
    rintro e w2 ⟨rfl, hb2⟩
    go_wp2_with fail
    go_ret
    exact ⟨rfl, btrA hb1 hb2⟩
  · go_wp2_with fail
    clear hw1
    refine (turned_any LA lc left w1 (Kd.C_below hL hb1) hLc hl).mono ?_
    rintro e w2 ⟨hor2, hb2⟩
    have hB2 := btrA hb1 hb2
    rcases hor2 with rfl | ⟨A2, c2, rfl, hle2, hC2, hok2⟩
    · go_wp2_with fail
      refine (turned_any RA rc right w2 (Kd.C_below hR hB2) hRc hr).mono ?_
      rintro e w3 ⟨hor3, hb3⟩
      have hB3 := btrA hB2 hb3
      rcases hor3 with rfl | ⟨A3, c3, rfl, hle3, hC3, hok3⟩
      · go_wp2_with fail
        refine (alive16_any w3 (hT.below hB3)).mono ?_
        rintro e w4 ⟨rfl, hb4⟩
        go_wp2_with fail
        go_ret
        exact ⟨rfl, btrA hB3 hb4⟩
      · go_wp2_with fail
        refine (alive16_any w3 (hT.below hB3)).mono ?_
        rintro e w4 ⟨rfl, hb4⟩
        go_wp2_with fail
        go_ret
        exact ⟨rfl, btrA hB3 hb4⟩
    · go_wp2_with fail
      refine (turned_any RA rc right w2 (Kd.C_below hR hB2) hRc hr).mono ?_
      rintro e w3 ⟨hor3, hb3⟩
      have hB3 := btrA hB2 hb3
      rcases hor3 with rfl | ⟨A3, c3, rfl, hle3, hC3, hok3⟩
      · go_wp2_with fail
        refine (alive16_any w3 (hT.below hB3)).mono ?_
        rintro e w4 ⟨rfl, hb4⟩
        go_wp2_with fail
        go_ret
        exact ⟨rfl, btrA hB3 hb4⟩
      · have hb13 := btrA hb2 hb3
        obtain ⟨⟨x0, x1, x2, x3, x4, x5⟩, x6, x7, x8, x9, x10, x11⟩ := HBOX.out w3 hb13
        go_wp2_with fail
        refine (answer_any q _ LA lc left RA rc right w3 (HQ.out.below hB3) hs (Kd.C_below hL hB3) hLc (Kd.C_below hR hB3) hRc (hT.below hB3) hlr hrr hj hl hr).mono ?_
        rintro e w4 ⟨A4, c4, R4, code4, rfl, hle4, hC4, ha4, hb4⟩
        have hB4 := btrA hB3 hb4
        have hb14 := btrA hb13 hb4
        clear x0 x1 x2 x3 x4 x5 x6 x7 x8 x9 x10 x11
        obtain ⟨⟨x0, x1, x2, x3, x4, x5⟩, x6, x7, x8, x9, x10, x11⟩ := HBOX.out w4 hb14
        go_wp2_with fail
        have hlrv : left.reverse.length = left.length := List.length_reverse
        have hrrv : right.reverse.length = right.length := List.length_reverse
        have han := answer_any q _ A2 c2 left.reverse A3 c3 right.reverse w4 (HQ.out.below hB4) hs (by rw [hlrv]; exact Kd.C_below (Kd.C_below hC2 hb3) hb4) (by rw [hlrv]; exact hle2) (by rw [hrrv]; exact Kd.C_below hC3 hb4) (by rw [hrrv]; exact hle3) (hT.below hB4) (fun x hx => hlr x (List.mem_reverse.1 hx)) (fun x hx => hrr x (List.mem_reverse.1 hx)) (fun x hx y hy => hj x (List.mem_reverse.1 hx) y (List.mem_reverse.1 hy)) (by rw [hlrv]; exact hl) (by rw [hrrv]; exact hr)
        rw [hlrv, hrrv] at han
        refine han.mono ?_
        clear han
        rintro e w5 ⟨A5, c5, R5, code5, rfl, hle5, hC5, ha5, hb5⟩
        obtain ⟨rfl, rfl⟩ := ans_perm (List.reverse_perm left) (List.reverse_perm right) hok2 hok3 ha4 ha5
        have hB5 := btrA hB4 hb5
        clear x0 x1 x2 x3 x4 x5 x6 x7 x8 x9 x10 x11
        go_wp2_with fail
        refine (alive16_any w5 (hT.below hB5)).mono ?_
        rintro e w6 ⟨rfl, hb6⟩
        have hB6 := btrA hB5 hb6
        have hxm : ∀ x ∈ R5, x.length ≤ 9223372036854775807 := fun x hx => by
          obtain ⟨i, hi, rfl⟩ := List.getElem_of_mem hx
          obtain ⟨_, _, _, _, _, _, h⟩ := kRows_at16 hC5 i hi
          have := h.2.1
          rw [List.getD_eq_getElem?_getD, List.getElem?_eq_getElem hi] at this
          exact this
        obtain ⟨ks, hks⟩ := same_self R5 hC5.2.1 hxm
        clear hxm
        go_wp2_with fail
        refine (hayloftref02_SameAll.calls ks A4 c4 R5 A5 c5 R5 true w6 (Kd.C_below (Kd.C_below hC4 hb5) hb6) hle4 (Kd.C_below hC5 hb6) hle5 hks).mono ?_
        rintro e w7 ⟨rfl, hd7⟩
        have hb7 : Below w6.heap.size w6 w7 := by first | exact hd7.below | exact hd7
        have hB7 := btrA hB6 hb7
        go_wp2_with fail
        go_ret
        exact ⟨rfl, hB7⟩
end Go.Proofs.YtihdlalbgdighaaDoor.QV
