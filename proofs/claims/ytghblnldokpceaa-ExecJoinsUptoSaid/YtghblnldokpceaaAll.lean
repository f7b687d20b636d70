/- hayloftlaw15.all: what an iterator gives, gathered; each row is spoilt behind its back. -/
import Derived.Test.YtghblnldokpceaaValues
import Derived.Test.YtghblnldokpceaaQVx10
namespace Go.Proofs.Ytghblnldokpceaa.QV
open Go.RowKit Go.Proofs.YtghblnldokpceaaW.PrintWords Go.Proofs.Ytghblnldokpceaa.Seq Go.Shelf
set_option linter.unusedVariables false
set_option linter.unusedSimpArgs false
attribute [local go_sem] Oper.semAt_some

theorem infoRow : (Try.prog.info? 31).map (fun i => (i.zero, i.size, i.bytes)) = some (some (.slice none 0 0), 1, 24) := by kernel_rfl
/-- Between two rounds: what has been gathered lies in a box. -/
def AllI (B b0 : Nat) (pre : List Row) (M : Nat → Prop) (A : World) : Prop :=
  M B ∧ ∃ v, A.heap[B]? = some (.cells #[v] 22 (0, 0)) ∧ Kd.S kRows tRow A b0 (fun k => M k ∧ k ≠ B) v pre
theorem AllI.kept {B b0 : Nat} {pre : List Row} {M : Nat → Prop} {A A' : World} {q : Nat → Prop} (h : AllI B b0 pre M A) (hk : Kpt (fun i => q i ∧ ¬ M i) A A') : AllI B b0 pre M A' := by
  obtain ⟨h1, v, h2, h3⟩ := h
  exact ⟨h1, v, hk.at h2 (fun h => h.2 h1), Kd.S_step h3 (fun k hk' hlt => hk.block k hlt (fun h => h.2 hk'.1))⟩

set_option maxRecDepth 100000 in
set_option maxHeartbeats 2000000 in
theorem all_any (g : Nat) (lb : Array Value) (xs : List Row) (w0 w : World) (eg : ∀ args w, (callFunc g args).run Try.prog w = .ok (.enter g args) w)
    (hseq : SeqOf Try.prog g lb (RdNew w0) xs w0) (hb0 : Below w0.heap.size w0 w) (hx : ∀ x ∈ xs, x.length * 40 ≤ 140737488351232) (hn : xs.length * 24 ≤ 140737488351232) :
    Calls Try.prog 18 #[.func (.func g) #[] lb] w fun e w' => ∃ v, e = .returned v ∧ Kd.S kRows tRow w' w.heap.size (fun _ => True) v xs ∧ Below w.heap.size w w' := by
  have hfn := fun (w : World) => run_func_nil (P := Try.prog) Try.underlying28 (.func g) lb w
  refine (callsIn_wide (n := 0)).1 (callsIn_of_wp_marks Try.func18 rfl trivial ?_ rfl)
  simp only [Try.ntmps18, List.size_toArray, List.length_cons, List.length_nil, Nat.reduceAdd, Nat.reduceSub, Array.replicate_succ, Array.replicate_zero, List.push_toArray, List.append_toArray, List.nil_append, List.cons_append]
  gi_wp2
  have hz : w0.heap.size ≤ w.heap.size := hb0.size
  refine wpIn_range (gf := g) (lb := lb) rfl eg hseq (hb0.trans (((Below.refl _ w).alloc (Nat.le_refl _) _).mono hz)) (fun A N x vs h => by obtain ⟨v, rfl, _⟩ := h; rfl) (fun A B N x vs h hk => h.kept hk)
    (AllI w.heap.size w.heap.size) (fun _ _ _ _ => False) (fun pre M A B h hk => h.kept hk) (fun _ _ _ _ _ h _ => h)
    (fun i => i = w.heap.size) ?hM ?h0 (fun x vs a₁ M A => ∃ v, vs = #[v] ∧ a₁ = { tmps := #[.func (.func g) #[] lb, undef, .slice none 0 0, .pointer (some ⟨w.heap.size, 0, none⟩), v, undef, .func (.func g) #[] lb, .bool false, .func (.func g) #[] lb, v, undef, undef, undef, undef, undef, undef, undef, undef, undef, undef, undef, undef, undef, undef, undef, undef], defers := [] })
    (fun _ _ _ _ _ _ h _ => h) ?assign ?body ?done ?stop
  case hM => intro i hi; subst hi; simp; omega
  case h0 => exact ⟨rfl, _, World.alloc_heap_new w _, Kd.S_nil _ _ _ _ _⟩
  case assign =>
    intro l pre x vs N A M hI hpre hrd hM hN
    obtain ⟨v, rfl, hv⟩ := hrd
    gi_wp2
    exact ⟨M, fun i hi => ⟨.inl hi, (hM i hi).2⟩, Kpt.refl _ _, hI, v, rfl, rfl⟩
  case stop =>
    intro D c pre W M' hpre h
    exact h.elim
  case done =>
    intro D W M' hI hk hM' hD hDw hDM
    obtain ⟨hMB, v, hbx, hS⟩ := hI
    have hc : W.cell? ⟨w.heap.size, 0, none⟩ = some v := blk_cell hbx 0
    have hB : Below w.heap.size w W := ((Below.refl _ w).alloc (Nat.le_refl _) _).trans (hk.below (by simp) (fun i _ e => by omega))
    gi_wp2
    refine ⟨by simp, .inl ⟨_, _, rfl, run_takeDeferred hD, ?_⟩⟩
    have hp : Kpt (fun i => i = D) W (W.putObj D (.deferred none)) := .putObj _ _ _
    refine ⟨_, results_tmp rfl _ _ _, v, rfl, Kd.S_mono (Kd.S_step hS (fun k hk' hlt => hp.block k hlt (fun e => hDM (by rw [← e]; exact hk'.1)))) (fun _ _ => trivial), hB.trans (hp.below hB.size (fun i _ e => by rw [e]; simp at hDw; omega))⟩
  case body =>
    intro l pre x vs N A M a₁ hI hpre hrd hax hM hN
    obtain ⟨v, rfl, rfl⟩ := hax
    obtain ⟨hMB, vl, hbx, hS⟩ := hI
    obtain ⟨vv, hvv, hR, hNA⟩ := hrd
    obtain rfl : v = vv := by simpa using hvv
    clear hvv
    have hmem : x ∈ xs := hpre.subset (by simp)
    have hx1 := hx x hmem
    have hlen : pre.length + 1 ≤ xs.length := by have := hpre.length_le; simpa using this
    obtain ⟨Ax, cx, rfl, hle, hC⟩ := Kd.R_reads hR
    have hzA : w.heap.size < A.heap.size := blk_lt hbx
    have c0 : A.drew.cell? ⟨w.heap.size, 0, none⟩ = some vl := blk_cell hbx 0
    have f0 : A.drew.frozen? ⟨w.heap.size, 0, none⟩ = false := blk_frozen hbx 0
    gi_wp2
    refine wpIn_region_R 5 (S := fun W' => W'.cell? ⟨w.heap.size, 0, none⟩ = some vl ∧ W'.frozen? ⟨w.heap.size, 0, none⟩ = false) (by kernel_rfl) ⟨c0, f0⟩ (fun hS0 => ?_)
    refine wpAnyR_take (i := 0) (oi := ⟨some 10, _, _, _, _, _⟩) (v := ?_) (by kernel_rfl) (by kernel_rfl) rfl (by kernel_rfl) (by kernel_rfl) (by kernel_rfl) (fun _ _ _ h => h) (Or.inl ⟨by rfl, ?_⟩) (by assumption) ?_
    rotate_left
    · intro w hSw; (try dsimp only at hSw); (try go_split_ands); go_simp; (try (with_reducible rfl))
    (try simp only [Act.put, List.setIfInBounds_toArray, List.set_cons_zero, List.set_cons_succ])
    refine wpAnyR_take (i := 1) (oi := ⟨some 11, _, _, _, _, _⟩) (v := ?_) (by kernel_rfl) (by kernel_rfl) rfl (by kernel_rfl) (by kernel_rfl) (by kernel_rfl) (fun _ _ _ h => h) (Or.inl ⟨by rfl, ?_⟩) (by assumption) ?_
    rotate_left
    · intro w hSw; (try dsimp only at hSw); (try go_split_ands); go_simp; (try (with_reducible rfl))
    (try simp only [Act.put, List.setIfInBounds_toArray, List.set_cons_zero, List.set_cons_succ])
    refine wpAnyR_one (i := 2) (o := ⟨some 12, _, _, _, _, _⟩) (by kernel_rfl) (by kernel_rfl) rfl (fun K hK => ?_)
    go_simp
    refine (hayloftref02_Copy.calls Ax cx x x _ (Kd.C_below hC (below_drew (Below.refl _ _))) hle (by simp only [hayloftref02_Copy.f, Option.bind_some, List.nil_append, List.length_nil, Nat.zero_add]; rw [if_pos (by omega)])).mono ?_
    rintro e W1 ⟨v1, rfl, hR1, hb1⟩
    have hb1A : Below A.heap.size A W1 := (below_drew (Below.refl _ A)).trans hb1
    have hbx1 := blk_below hbx hb1A
    (try dsimp only)
    refine hK.out _ _ (.inr ⟨blk_cell hbx1 0, blk_frozen hbx1 0⟩) ?_
    clear hK K
    (try simp only [Act.put, List.setIfInBounds_toArray, List.set_cons_zero, List.set_cons_succ])
    obtain ⟨A1, c1, rfl, hle1, hC1⟩ := Kd.R_reads hR1
    refine wpAnyR_one (i := 3) (o := ⟨some 13, _, _, _, _, _⟩) (by kernel_rfl) (by kernel_rfl) rfl (fun K hK => ?_)
    go_simp
    refine hK.out _ _ (.inr ⟨blk_cell (blk_alloc hbx1 _) 0, blk_frozen (blk_alloc hbx1 _) 0⟩) ?_
    clear hK K
    (try simp only [Act.put, List.setIfInBounds_toArray, List.set_cons_zero, List.set_cons_succ])
    refine wpAnyR_one (i := 4) (o := ⟨some 14, _, _, _, _, _⟩) (by kernel_rfl) (by kernel_rfl) rfl (fun K hK => ?_)
    have hzA1 : A.heap.size ≤ W1.heap.size := hb1A.size
    refine Kd.S_append_step kRows (w0 := A) w.heap.size (by rfl) (.tmp 10) (.tmp 13) 22 31 _ 24 rfl Try.underlying22 infoRow rfl (by decide) (by decide) vl pre x [.slice A1 x.length c1]
      (fun k => (M k ∧ k ≠ w.heap.size) ∨ A.heap.size ≤ k) (fun k => (Value.slice A1 x.length c1).ownBlock = some k) rfl rfl ⟨_, rfl, RS_ok (Kd.R_lower hR1 (by show w.heap.size ≤ A.heap.size; omega)) (fun _ h => h)⟩ ?_ (fun k hk => .inr (by omega)) ?_ (hb1A.mono (by omega)) (by omega) (by omega) ?_
    · intro k hk
      have := Kd.R_base hR1 k hk
      exact ⟨.inr this, fun e => by have h2 := Kd.S_lt hS k e.symm; exact absurd this (by show ¬ A.heap.size ≤ k; omega)⟩
    · refine Kd.S_mono (Kd.S_below (Kd.S_bound hS) hb1A) (fun k hk => ⟨.inl hk.1, fun h => ?_⟩)
      have := Kd.R_base hR1 k h
      exact absurd this (by show ¬ A.heap.size ≤ k; have := hk.2.2.1; omega)
    intro v2 W2 hS2 hB2 hg2 hat2
    obtain ⟨g2, cap2, rfl, hg2b, hg2l, cells2, hcells2⟩ := Kd.S_form hS2 (by simp)
    have hlapp : (pre ++ [x]).length = pre.length + 1 := by simp
    rw [hlapp] at hS2
    have hbx2 := blk_grown hbx1 hg2 (Kd.S_away hS (fun k hk => hk.2))
    refine hK.out _ _ (.inr ⟨blk_cell hbx2 0, blk_frozen hbx2 0⟩) ?_
    clear hK K
    (try simp only [Act.put, List.setIfInBounds_toArray, List.set_cons_zero, List.set_cons_succ])
    have hc2 : W2.cell? ⟨w.heap.size, 0, none⟩ = some vl := blk_cell hbx2 0
    have hf2 : W2.frozen? ⟨w.heap.size, 0, none⟩ = false := blk_frozen hbx2 0
    refine wpAnyR_one (i := 5) (o := ⟨none, _, _, _, _, _⟩) (by kernel_rfl) (by kernel_rfl) rfl (fun K hK => ?_)
    go_simp
    refine hK.out _ _ (.inl rfl) ?_
    clear hK K
    (try simp only [Act.put, List.setIfInBounds_toArray, List.set_cons_zero, List.set_cons_succ])
    refine wpAnyR_done (by kernel_rfl) ?_ _
    gi_wp2
    have hzA2 : W1.heap.size ≤ W2.heap.size := hg2.size
    obtain ⟨W3, hW3⟩ : ∃ W3, W2.setCell ⟨w.heap.size, 0, none⟩ (.slice (some ⟨g2, 0, none⟩) (pre.length + 1) cap2) = W3 := ⟨_, rfl⟩
    rw [hW3]
    have hk3 : Kpt (fun i => i = w.heap.size) W2 W3 := by rw [← hW3]; exact Kpt.setCell W2 ⟨w.heap.size, 0, none⟩ _
    have hbx3 : W3.heap[w.heap.size]? = some (.cells #[.slice (some ⟨g2, 0, none⟩) (pre.length + 1) cap2] 22 (0, 0)) := by rw [← hW3]; exact blk_set hbx2 0 _
    have hS3 : Kd.S kRows tRow W3 w.heap.size (fun k => ((M k ∧ k ≠ w.heap.size) ∨ A.heap.size ≤ k) ∧ k < W3.heap.size) (.slice (some ⟨g2, 0, none⟩) (pre.length + 1) cap2) (pre ++ [x]) := by
      have h3 : Kd.S kRows tRow W3 w.heap.size (fun k => (M k ∧ k ≠ w.heap.size) ∨ A.heap.size ≤ k) (.slice (some ⟨g2, 0, none⟩) (pre.length + 1) cap2) (pre ++ [x]) := by
        rw [← hW3]
        exact Kd.S_far (p := ⟨w.heap.size, 0, none⟩) hS2 (fun k hk => by rcases hk with hk | hk; exact hk.2; show k ≠ w.heap.size; omega) _
      exact Kd.S_mono (Kd.S_bound h3) (fun k hk => ⟨hk.1, hk.2.2.1⟩)
    have hKA3 : Kpt M A W3 := by
      refine ((Kpt.of_new M hb1A).trans (Kpt.grown hg2) (M := M) (fun i hi h => ?_)).trans hk3 (fun i hi h => ?_)
      · rcases h with h | h
        · exact h
        · exact ((Kd.S_R hS).1 i h.symm).1
      · rcases h with h | h
        · exact h
        · rw [h]; exact hMB
    have hrow : ∀ gx, Ax = some ⟨gx, 0, none⟩ → 0 < x.length → N gx ∧ ∃ cur, W3.heap[gx]? = some (.cells cur tS (0, 0)) ∧ 4 * x.length ≤ cur.size := by
      intro gx he hpos
      subst he
      obtain ⟨inner, hown⟩ := Kd.R_own hR
      rcases hown.2 with ⟨hv, h0⟩ | ⟨gg, cap, cur, hv, hgb, hh, h1, h2, h3, h4⟩
      · cases hv
      · injection hv with hv1 hv2 hv3
        injection hv1 with hv1
        injection hv1 with hv1
        subst hv1
        have hNg : N gx := hR.1 gx rfl
        refine ⟨hNg, cur, hKA3.at hh (hN gx hNg).2.2, ?_⟩
        have hsz4 : kS.sz = 4 := rfl
        rw [h3, hsz4]; omega
    have hmax := hC.2.1
    clear hW3 hS2 hB2 hat2 hcells2 hc2 hf2 hS0 c0 f0 hbx2 hbx1 hR1 hC1
    gi_loopw [17] (fun i wr => ∃ k : Nat, k ≤ x.length ∧ i = .int .i64 k ∧ Kpt N W3 wr ∧ ∀ gx, Ax = some ⟨gx, 0, none⟩ → 0 < x.length → N gx ∧ ∃ cur, wr.heap[gx]? = some (.cells cur tS (0, 0)) ∧ 4 * x.length ≤ cur.size)
      (fun i _ => x.length - (intOf i).toNat)
    case atStart => exact ⟨0, Nat.zero_le _, rfl, Kpt.refl _ _, hrow⟩
    case round =>
      obtain ⟨k, hk, rfl, hkw, hrw⟩ := hrel
      by_cases hlt : k < x.length
      · obtain ⟨gx, capx, hvx, hgxb, hgxl, cellsx, hcx⟩ := Kd.R_form hR (by omega)
        injection hvx with hAx
        subst hAx
        obtain ⟨hNg, cur, hcur, hcs⟩ := hrw gx rfl (by omega)
        obtain ⟨u0, e0⟩ : ∃ u, wr.cell? ⟨gx, k * 4, none⟩ = some u := ⟨_, (blk_cell hcur _).trans (Array.getElem?_eq_getElem (by omega))⟩
        obtain ⟨u1, e1⟩ : ∃ u, wr.cell? ⟨gx, k * 4 + 1, none⟩ = some u := ⟨_, (blk_cell hcur _).trans (Array.getElem?_eq_getElem (by omega))⟩
        obtain ⟨u2, e2⟩ : ∃ u, wr.cell? ⟨gx, k * 4 + 2, none⟩ = some u := ⟨_, (blk_cell hcur _).trans (Array.getElem?_eq_getElem (by omega))⟩
        obtain ⟨u3, e3⟩ : ∃ u, wr.cell? ⟨gx, k * 4 + 3, none⟩ = some u := ⟨_, (blk_cell hcur _).trans (Array.getElem?_eq_getElem (by omega))⟩
        have q0 := blk_frozen hcur (k * 4)
        have q1 := blk_frozen hcur (k * 4 + 1)
        have q2 := blk_frozen hcur (k * 4 + 2)
        have q3 := blk_frozen hcur (k * 4 + 3)
        have st : ∀ (W : World) (j : Nat) (u : Value), Kpt N W (W.setCell ⟨gx, j, none⟩ u) := fun W j u => (Kpt.setCell W ⟨gx, j, none⟩ u).mono (fun i _ e => by have e' : i = gx := e; rw [e']; exact hNg)
        gi_wp2
        go_roundw
        case rel =>
          refine ⟨k + 1, by omega, by go_num, (((hkw.trans (st wr _ _) (fun _ _ h => h.elim id id)).trans (st _ _ _) (fun _ _ h => h.elim id id)).trans (st _ _ _) (fun _ _ h => h.elim id id)).trans (st _ _ _) (fun _ _ h => h.elim id id), fun gy hy hpos => ?_⟩
          injection hy with hy
          injection hy with hy
          subst hy
          exact ⟨hNg, _, blk_set (blk_set (blk_set (blk_set hcur _ _) _ _) _ _) _ _, by simpa using hcs⟩
        case measure => simp [intOf]; omega
      · obtain rfl : k = x.length := by omega
        gi_wp2
        have hNB : ∀ i, N i → ¬ ((M i ∧ i ≠ w.heap.size) ∨ A.heap.size ≤ i) := fun i hi h => by
          rcases h with h | h
          · exact (hN i hi).2.2 h.1
          · have := hNA i hi; omega
        have hs3 := hKA3.size
        have hsw := hkw.size
        refine ⟨fun i => (M i ∨ A.heap.size ≤ i) ∧ i < wr.heap.size, fun i hi => ⟨by rcases hi.1 with h | h; exact .inl h; exact .inr (.inr h), hi.2⟩, hKA3.trans hkw (fun _ _ h => h), ⟨⟨.inl hMB, by omega⟩, _, hkw.at hbx3 (fun h => (hN _ h).2.2 hMB), ?_⟩⟩
        refine Kd.S_mono (Kd.S_step hS3 (fun k hk' hlt' => hkw.block k hlt' (fun h => hNB k h hk'.1))) (fun k hk' => ?_)
        have hlt' := hk'.2
        rcases hk'.1 with h | h
        · exact ⟨⟨.inl h.1, by omega⟩, h.2⟩
        · exact ⟨⟨.inr h, by omega⟩, by omega⟩
end Go.Proofs.Ytghblnldokpceaa.QV
