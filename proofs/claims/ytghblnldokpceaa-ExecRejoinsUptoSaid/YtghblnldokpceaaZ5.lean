/- The parts Group1, GroupF, AliveX, LRejoins, XOpen, LRejW of this proof, one behind the other. -/
import Derived.Test.YtghblnldokpceaaZ4
/- exec.Group of one row without a key, where the rows are to be counted. -/
namespace Go.Proofs.Ytghblnldokpceaa.QV
open Go.RowKit Go.Proofs.YtghblnldokpceaaW.PrintWords Go.Proofs.Ytghblnldokpceaa.Seq Go.Shelf Go.Proofs.Ytghblnldokpceaa.Op
set_option linter.unusedVariables false
set_option linter.unusedSimpArgs false
attribute [local go_sem] Oper.semAt_some

/-- Between two rounds: one group, of the rows so far. -/
def GrpI (W : World) (cap : Nat) (pre : List Row) (M : Nat → Prop) (A : World) : Prop :=
  M W.heap.size ∧ M (W.heap.size + 1 + 1) ∧ A.heap[W.heap.size]? = some (.cells #[.slice (some ⟨W.heap.size + 1 + 1, 0, none⟩) 1 cap] 63 (0, 0)) ∧
    (∃ cs rv, A.heap[W.heap.size + 1 + 1]? = some (.cells cs 65 (0, 0)) ∧ cs[0]? = some (.slice none 0 0) ∧ cs[1]? = some rv ∧ Kd.S kRows tRow A W.heap.size (fun k => M k ∧ k ≠ W.heap.size ∧ k ≠ W.heap.size + 1 + 1) rv pre) ∧ (∀ i, M i → W.heap.size ≤ i) ∧ Below W.heap.size W A
theorem GrpI.kept {W : World} {cap : Nat} {pre : List Row} {M : Nat → Prop} {A B : World} {q : Nat → Prop} (h : GrpI W cap pre M A) (hq : ∀ i, q i → W.heap.size ≤ i) (hk : Kpt (fun i => q i ∧ ¬ M i) A B) : GrpI W cap pre M B := by
  obtain ⟨h1, h2, h3, ⟨cs, rv, h4, h5, h6, h7⟩, h8, h9⟩ := h
  exact ⟨h1, h2, hk.at h3 (fun h => h.2 h1), ⟨cs, rv, hk.at h4 (fun h => h.2 h2), h5, h6, Kd.S_step h7 (fun k hk' hlt => hk.block k hlt (fun h => h.2 hk'.1))⟩, h8, h9.trans (hk.below h9.size (fun i _ h => hq i h.1))⟩
theorem C_nil (w : World) : kS.C w none 0 [] := by simp [Kd.C, ReadsRow]
theorem clone_nil (w : World) : Calls Try.prog 33 #[.slice none 0 0] w fun e w' => e = .returned (.slice none 0 0) ∧ w' = w := by
  have hn := Lib.run_eql_slice_nil (P := Try.prog)
  go_enter Try.func33, Try.ntmps33
  go_wp2
  go_ret
  exact ⟨rfl, rfl⟩

def one1 : Row := [⟨2, false, 1, ⟨#[]⟩⟩]

set_option maxRecDepth 100000 in
set_option maxHeartbeats 4000000 in
theorem group_seq1 (row : Row) (sv : Value) (b1 b2 b3 ga ca : Nat) (w : World) (hR : IsSeq w sv [row])
    (h1 : w.cell? ⟨b1, 0, none⟩ = some (.slice none 0 0)) (h2 : w.cell? ⟨b2, 0, none⟩ = some sv) (h3 : w.cell? ⟨b3, 0, none⟩ = some (.slice (some ⟨ga, 0, none⟩) 1 ca)) (h4 : w.cell? ⟨ga, 0, none⟩ = some (.int .i64 0)) (h5 : w.cell? ⟨ga, 1, none⟩ = some (.int .i64 0))
    (hb : row.length ≤ 1048576) :
    SeqOf Try.prog 39 #[.pointer (some ⟨b1, 0, none⟩), .pointer (some ⟨b2, 0, none⟩), .pointer (some ⟨b3, 0, none⟩)] (RdNew w) [one1] w := by
  intro l J Jx W Mc hW hMc hJ hJx hY h0
  have hzw : w.heap.size ≤ W.heap.size := hW.size
  obtain ⟨gR, lbR, RdR, rfl, egR, hsR, hkR, hrR⟩ := hR
  refine (callsIn_wide (n := 0)).1 (callsIn_of_wp_marks Try.func39 rfl trivial ?_ rfl)
  simp only [Try.ntmps39, List.size_toArray, List.length_cons, List.length_nil, Nat.reduceAdd, Nat.reduceSub, Array.replicate_succ, Array.replicate_zero, List.push_toArray, List.append_toArray, List.nil_append, List.cons_append]
  have hbWa : Below W.heap.size W (W.alloc (.cells #[.slice none 0 0] 63)) := below_alloc (Below.refl _ _) _
  have d1 : (W.alloc (.cells #[.slice none 0 0] 63)).cell? ⟨b1, 0, none⟩ = some (.slice none 0 0) := pw_cell_below (hW.trans (hbWa.mono hzw)) h1
  obtain ⟨cap, hcap⟩ : ∃ cap, (Question.appendCap 1 0 65).cut (W.tape W.drawn (Question.appendCap 1 0 65)) = cap := ⟨_, rfl⟩
  obtain ⟨cs0, hcs0⟩ : ∃ cs0 : Array Value, #[Value.slice none 0 0, Value.slice none 0 0] ++ Builtin.zeroCells #[Value.slice none 0 0, Value.slice none 0 0] (cap - 1) = cs0 := ⟨_, rfl⟩
  obtain ⟨W1, hW1⟩ : ∃ W1, (((W.alloc (.cells #[.slice (some ⟨W.heap.size + 1 + 1, 0, none⟩) 1 cap] 63)).alloc (.cells #[.slice none 0 0, .slice none 0 0] 65)).alloc (.cells cs0 65)).drew = W1 := ⟨_, rfl⟩
  have hbW1 : Below W.heap.size W W1 := by rw [← hW1]; exact below_drew (below_alloc (below_alloc (below_alloc (Below.refl _ _) _) _) _)
  have hszW1 : W1.heap.size = W.heap.size + 3 := by rw [← hW1]; simp
  have hx5 : W1.heap[W.heap.size]? = some (.cells #[.slice (some ⟨W.heap.size + 1 + 1, 0, none⟩) 1 cap] 63 (0, 0)) := by rw [← hW1]; exact blk_drew (blk_alloc (blk_alloc (blk_new _ _) _) _)
  have hxg : W1.heap[W.heap.size + 1 + 1]? = some (.cells cs0 65 (0, 0)) := by
    have := blk_new ((W.alloc (.cells #[.slice (some ⟨W.heap.size + 1 + 1, 0, none⟩) 1 cap] 63)).alloc (.cells #[.slice none 0 0, .slice none 0 0] 65)) (.cells cs0 65)
    rw [World.size_alloc, World.size_alloc] at this
    rw [← hW1]; exact blk_drew this
  have k0 : cs0[0]? = some (.slice none 0 0) := by rw [← hcs0, Array.getElem?_append_left (by simp)]; rfl
  have k1 : cs0[1]? = some (.slice none 0 0) := by rw [← hcs0, Array.getElem?_append_left (by simp)]; rfl
  have d2 : W1.cell? ⟨b2, 0, none⟩ = some (.func (.func gR) #[] lbR) := pw_cell_below (hW.trans (hbW1.mono hzw)) h2
  gi_wp2
  clear hW1 hcs0 hcap d1
  refine wpIn_range (gf := gR) (lb := lbR) rfl egR hsR (hW.trans (hbW1.mono hzw)) (fun A N x vs h => by obtain ⟨Ad, c, rfl, _⟩ := hrR _ _ _ _ h; rfl) hkR
    (GrpI W cap) (fun _ _ _ _ => False) (fun pre M A B h hk => h.kept (fun i h => by omega) hk) (fun _ _ _ _ _ h _ => h)
    (fun i => i = W.heap.size ∨ i = W.heap.size + 1 + 1) ?hM ?h0 (fun x vs a₁ M A => ∃ v, vs = #[v] ∧ a₁ = { tmps := #[.func (.yield l) #[] #[], .pointer (some ⟨b1, 0, none⟩), .pointer (some ⟨b2, 0, none⟩), .pointer (some ⟨b3, 0, none⟩), undef, .pointer (some ⟨W.heap.size, 0, none⟩), v, undef, undef, undef, undef, undef, undef, undef, undef, .slice none 0 0, .int .i64 0, .bool true, .slice none 0 0, .agg #[.slice none 0 0, .slice none 0 0], .slice (some ⟨W.heap.size + 1, 0, none⟩) 1 1, .slice (some ⟨W.heap.size + 1 + 1, 0, none⟩) 1 cap, .func (.func gR) #[] lbR, v] ++ Array.replicate 57 undef, defers := [] })
    (fun _ _ _ _ _ _ h _ => h) ?assign ?body ?done ?stop
  case hM => intro i hi; omega
  case h0 => exact ⟨.inl rfl, .inr rfl, hx5, ⟨cs0, _, hxg, k0, k1, Kd.S_nil _ _ _ _ _⟩, fun i hi => by omega, hbW1⟩
  case stop =>
    intro D c pre W M' hpre h
    exact h.elim
  case assign =>
    intro l2 pre x vs N A M hI hpre hrd hM hN
    obtain ⟨Ad, c, rfl, hle, hC⟩ := hrR _ _ _ _ hrd
    gi_wp2
    refine ⟨M, fun i hi => ⟨.inl hi, (hM i hi).2⟩, Kpt.refl _ _, hI, _, rfl, ?_⟩
    simp only [List.size_toArray, List.length_cons, List.length_nil, Nat.reduceAdd, Nat.reduceSub, Array.replicate_succ, Array.replicate_zero, List.push_toArray, List.append_toArray, List.nil_append, List.cons_append]
  case body =>
    intro l2 pre x vs N A M a₁ hI hpre hrd hax hM hN
    obtain ⟨v, rfl, rfl⟩ := hax
    simp only [List.size_toArray, List.length_cons, List.length_nil, Nat.reduceAdd, Nat.reduceSub, Array.replicate_succ, Array.replicate_zero, List.push_toArray, List.append_toArray, List.nil_append, List.cons_append]
    have hpl : pre = [] ∧ x = row := by
      obtain ⟨t, ht⟩ := hpre
      cases pre with
      | nil => simp at ht; exact ⟨rfl, ht.1⟩
      | cons a b => simp at ht
    obtain ⟨rfl, rfl⟩ := hpl
    obtain ⟨hMB, hMG, hbx, ⟨cs, rv, hbg, c0, c1, hS⟩, hMW, hBW⟩ := hI
    obtain ⟨Ad, c, hvv, hle, hC⟩ := hrR _ _ _ _ hrd
    obtain rfl : v = .slice Ad x.length c := by simpa using hvv
    clear hvv
    obtain ⟨RA, rc, rfl⟩ := Kd.S_slice hS
    have d1 : A.cell? ⟨b1, 0, none⟩ = some (.slice none 0 0) := pw_cell_below (hW.trans (hBW.mono hzw)) h1
    have hzA : W.heap.size + 1 + 1 < A.heap.size := blk_lt hbg
    gi_wp2
    refine ⟨trivial, rfl, calls_in _ _ ((exec_picked.calls 1 Ad c x none 0 [] [] A hC hle (by simp [Kd.C, ReadsRow]) (by simp) (by simp [exec_picked.f, exec_picked.l0])).mono ?_)⟩
    rintro e W2 ⟨vk, rfl, hk, hb2⟩
    obtain ⟨KB, kc, rfl, hkle, hkC⟩ := Kd.R_reads hk
    simp only [List.length_nil] at hkC hkle ⊢
    have hbx2 := blk_below hbx hb2
    have hbg2 := blk_below hbg hb2
    have e5 : W2.cell? ⟨W.heap.size, 0, none⟩ = some (.slice (some ⟨W.heap.size + 1 + 1, 0, none⟩) 1 cap) := blk_cell hbx2 0
    have g0 : W2.cell? ⟨W.heap.size + 1 + 1, 0, none⟩ = some (.slice none 0 0) := (blk_cell hbg2 0).trans c0
    have g1 : W2.cell? ⟨W.heap.size + 1 + 1, 1, none⟩ = some (.slice RA 0 rc) := (blk_cell hbg2 1).trans c1
    gi_wp2
    refine ⟨trivial, rfl, calls_in _ _ ((search_one (W.heap.size + 1 + 1) cap RA 0 rc KB kc W2 g0 g1 hkC).mono ?_)⟩
    rintro e W3 ⟨rfl, hb3⟩
    have hb3A : Below A.heap.size A W3 := hb2.trans (hb3.mono hb2.size)
    have hbx3 := blk_below hbx hb3A
    have hbg3 := blk_below hbg hb3A
    gi_wp2
    have S0 : ∀ V : World, Below A.heap.size A V → V.cell? ⟨W.heap.size, 0, none⟩ = some (.slice (some ⟨W.heap.size + 1 + 1, 0, none⟩) 1 cap) ∧ V.cell? ⟨W.heap.size + 1 + 1, 1, none⟩ = some (.slice RA 0 rc) ∧ V.frozen? ⟨W.heap.size + 1 + 1, 1, none⟩ = false :=
      fun V hV => ⟨blk_cell (blk_below hbx hV) 0, (blk_cell (blk_below hbg hV) 1).trans c1, blk_frozen (blk_below hbg hV) 1⟩
    refine wpIn_region_R 13 (S := fun V => V.cell? ⟨W.heap.size, 0, none⟩ = some (.slice (some ⟨W.heap.size + 1 + 1, 0, none⟩) 1 cap) ∧ V.cell? ⟨W.heap.size + 1 + 1, 1, none⟩ = some (.slice RA 0 rc) ∧ V.frozen? ⟨W.heap.size + 1 + 1, 1, none⟩ = false) (by kernel_rfl) (S0 _ (hb3A.trans ((below_drew (Below.refl _ _)).mono hb3A.size))) (fun hS0 => ?_)
    refine wpAnyR_take (i := 0) (oi := ⟨some 41, _, _, _, _, _⟩) (v := ?_) (by kernel_rfl) (by kernel_rfl) rfl (by kernel_rfl) (by kernel_rfl) (by kernel_rfl) (fun _ _ _ h => h) (Or.inl ⟨by rfl, ?_⟩) (by assumption) ?_
    rotate_left
    · intro w hSw; (try dsimp only at hSw); (try go_split_ands); go_simp; (try (with_reducible rfl))
    (try simp only [Act.put, List.setIfInBounds_toArray, List.set_cons_zero, List.set_cons_succ])
    refine wpAnyR_take (i := 1) (oi := ⟨some 42, _, _, _, _, _⟩) (v := ?_) (by kernel_rfl) (by kernel_rfl) rfl (by kernel_rfl) (by kernel_rfl) (by kernel_rfl) (fun _ _ _ h => h) (Or.inl ⟨by rfl, ?_⟩) (by assumption) ?_
    rotate_left
    · intro w hSw; (try dsimp only at hSw); (try go_split_ands); go_simp; (try (with_reducible rfl))
    (try simp only [Act.put, List.setIfInBounds_toArray, List.set_cons_zero, List.set_cons_succ])
    refine wpAnyR_take (i := 2) (oi := ⟨some 43, _, _, _, _, _⟩) (v := ?_) (by kernel_rfl) (by kernel_rfl) rfl (by kernel_rfl) (by kernel_rfl) (by kernel_rfl) (fun _ _ _ h => h) (Or.inl ⟨by rfl, ?_⟩) (by assumption) ?_
    rotate_left
    · intro w hSw; (try dsimp only at hSw); (try go_split_ands); go_simp; (try (with_reducible rfl))
    (try simp only [Act.put, List.setIfInBounds_toArray, List.set_cons_zero, List.set_cons_succ])
    refine wpAnyR_take (i := 3) (oi := ⟨some 44, _, _, _, _, _⟩) (v := ?_) (by kernel_rfl) (by kernel_rfl) rfl (by kernel_rfl) (by kernel_rfl) (by kernel_rfl) (fun _ _ _ h => h) (Or.inl ⟨by rfl, ?_⟩) (by assumption) ?_
    rotate_left
    · intro w hSw; (try dsimp only at hSw); (try go_split_ands); go_simp; (try (with_reducible rfl))
    (try simp only [Act.put, List.setIfInBounds_toArray, List.set_cons_zero, List.set_cons_succ])
    refine wpAnyR_take (i := 4) (oi := ⟨some 45, _, _, _, _, _⟩) (v := ?_) (by kernel_rfl) (by kernel_rfl) rfl (by kernel_rfl) (by kernel_rfl) (by kernel_rfl) (fun _ _ _ h => h) (Or.inl ⟨by rfl, ?_⟩) (by assumption) ?_
    rotate_left
    · intro w hSw; (try dsimp only at hSw); (try go_split_ands); go_simp; (try (with_reducible rfl))
    (try simp only [Act.put, List.setIfInBounds_toArray, List.set_cons_zero, List.set_cons_succ])
    refine wpAnyR_take (i := 5) (oi := ⟨some 46, _, _, _, _, _⟩) (v := ?_) (by kernel_rfl) (by kernel_rfl) rfl (by kernel_rfl) (by kernel_rfl) (by kernel_rfl) (fun _ _ _ h => h) (Or.inl ⟨by rfl, ?_⟩) (by assumption) ?_
    rotate_left
    · intro w hSw; (try dsimp only at hSw); (try go_split_ands); go_simp; (try (with_reducible rfl))
    (try simp only [Act.put, List.setIfInBounds_toArray, List.set_cons_zero, List.set_cons_succ])
    refine wpAnyR_take (i := 6) (oi := ⟨some 47, _, _, _, _, _⟩) (v := ?_) (by kernel_rfl) (by kernel_rfl) rfl (by kernel_rfl) (by kernel_rfl) (by kernel_rfl) (fun _ _ _ h => h) (Or.inl ⟨by rfl, ?_⟩) (by assumption) ?_
    rotate_left
    · intro w hSw; (try dsimp only at hSw); (try go_split_ands); go_simp; (try (with_reducible rfl))
    (try simp only [Act.put, List.setIfInBounds_toArray, List.set_cons_zero, List.set_cons_succ])
    refine wpAnyR_take (i := 7) (oi := ⟨some 48, _, _, _, _, _⟩) (v := ?_) (by kernel_rfl) (by kernel_rfl) rfl (by kernel_rfl) (by kernel_rfl) (by kernel_rfl) (fun _ _ _ h => h) (Or.inl ⟨by rfl, ?_⟩) (by assumption) ?_
    rotate_left
    · intro w hSw; (try dsimp only at hSw); (try go_split_ands); go_simp; (try (with_reducible rfl))
    (try simp only [Act.put, List.setIfInBounds_toArray, List.set_cons_zero, List.set_cons_succ])
    refine wpAnyR_one (i := 8) (o := ⟨some 49, _, _, _, _, _⟩) (by kernel_rfl) (by kernel_rfl) rfl (fun K hK => ?_)
    go_simp
    refine (clone_any Ad x c W3.drew (Kd.C_below (Kd.C_below hC hb3A) (below_drew (Below.refl _ _))) hle (by omega)).mono ?_
    rintro e W4 ⟨v1, rfl, hR1, hb4⟩
    have hb4A : Below A.heap.size A W4 := hb3A.trans (((below_drew (Below.refl _ W3)).trans hb4).mono hb3A.size)
    (try dsimp only)
    refine hK.out _ _ (.inr (S0 _ hb4A)) ?_
    clear hK K
    (try simp only [Act.put, List.setIfInBounds_toArray, List.set_cons_zero, List.set_cons_succ])
    obtain ⟨A1, a1c, rfl, hle1, hC1⟩ := Kd.R_reads hR1
    refine wpAnyR_one (i := 9) (o := ⟨some 50, _, _, _, _, _⟩) (by kernel_rfl) (by kernel_rfl) rfl (fun K hK => ?_)
    go_simp
    refine hK.out _ _ (.inr (S0 _ (below_alloc hb4A _))) ?_
    clear hK K
    (try simp only [Act.put, List.setIfInBounds_toArray, List.set_cons_zero, List.set_cons_succ])
    refine wpAnyR_one (i := 10) (o := ⟨some 51, _, _, _, _, _⟩) (by kernel_rfl) (by kernel_rfl) rfl (fun K hK => ?_)
    have hzA4 : A.heap.size ≤ W4.heap.size := hb4A.size
    have hzA3 : A.heap.size ≤ W3.heap.size := hb3A.size
    refine Kd.S_append_step kRows (w0 := A) W.heap.size (by rfl) (.tmp 47) (.tmp 50) 22 31 _ 24 rfl Try.underlying22 infoRow rfl (by decide) (by decide) (.slice RA 0 rc) [] x [.slice A1 x.length a1c]
      (fun k => (M k ∧ k ≠ W.heap.size ∧ k ≠ W.heap.size + 1 + 1) ∨ A.heap.size ≤ k) (fun k => (Value.slice A1 x.length a1c).ownBlock = some k) rfl rfl ⟨_, rfl, RS_ok (Kd.R_lower hR1 (by show W.heap.size ≤ W3.heap.size; omega)) (fun _ h => h)⟩ ?_ (fun k hk => .inr (by omega)) ?_ (hb4A.mono (by omega)) (by omega) (by decide) ?_
    · intro k hk
      have := Kd.R_base hR1 k hk
      exact ⟨.inr (Nat.le_trans hzA3 this), fun e => by have h2 := Kd.S_lt hS k e.symm; exact absurd this (by show ¬ W3.heap.size ≤ k; omega)⟩
    · refine Kd.S_mono (Kd.S_below (Kd.S_bound hS) hb4A) (fun k hk => ⟨.inl hk.1, fun h => ?_⟩)
      have := Kd.R_base hR1 k h
      exact absurd this (by show ¬ W3.heap.size ≤ k; have := hk.2.2.1; omega)
    intro v2 W5 hS2 hB2 hg2 hat2
    obtain ⟨g2, cap2, rfl, hg2b, hg2l, cells2, hcells2⟩ := Kd.S_form hS2 (by simp)
    simp only [List.nil_append, List.length_cons, List.length_nil, Nat.zero_add] at hS2 ⊢
    have hbx5 := blk_grown (blk_below hbx hb4A) hg2 (Kd.S_away hS (fun k hk => hk.2.1))
    have hbg5 := blk_grown (blk_below hbg hb4A) hg2 (Kd.S_away hS (fun k hk => hk.2.2))
    refine hK.out _ _ (.inr ⟨blk_cell hbx5 0, (blk_cell hbg5 1).trans c1, blk_frozen hbg5 1⟩) ?_
    clear hK K
    (try simp only [Act.put, List.setIfInBounds_toArray, List.set_cons_zero, List.set_cons_succ])
    have hS05 : W5.cell? ⟨W.heap.size, 0, none⟩ = some (.slice (some ⟨W.heap.size + 1 + 1, 0, none⟩) 1 cap) ∧ W5.cell? ⟨W.heap.size + 1 + 1, 1, none⟩ = some (.slice RA 0 rc) ∧ W5.frozen? ⟨W.heap.size + 1 + 1, 1, none⟩ = false := ⟨blk_cell hbx5 0, (blk_cell hbg5 1).trans c1, blk_frozen hbg5 1⟩
    refine wpAnyR_one (i := 11) (o := ⟨some 52, _, _, _, _, _⟩) (by kernel_rfl) (by kernel_rfl) rfl (fun K hK => ?_)
    go_simp
    refine hK.out _ _ (.inr hS05) ?_
    clear hK K
    (try simp only [Act.put, List.setIfInBounds_toArray, List.set_cons_zero, List.set_cons_succ])
    refine wpAnyR_one (i := 12) (o := ⟨some 53, _, _, _, _, _⟩) (by kernel_rfl) (by kernel_rfl) rfl (fun K hK => ?_)
    go_simp
    refine hK.out _ _ (.inr hS05) ?_
    clear hK K
    (try simp only [Act.put, List.setIfInBounds_toArray, List.set_cons_zero, List.set_cons_succ])
    have hcg : W5.cell? ⟨W.heap.size + 1 + 1, 1, none⟩ = some (.slice RA 0 rc) := hS05.2.1
    have hfg : W5.frozen? ⟨W.heap.size + 1 + 1, 1, none⟩ = false := hS05.2.2
    refine wpAnyR_one (i := 13) (o := ⟨none, _, _, _, _, _⟩) (by kernel_rfl) (by kernel_rfl) rfl (fun K hK => ?_)
    go_simp
    refine hK.out _ _ (.inl rfl) ?_
    clear hK K
    (try simp only [Act.put, List.setIfInBounds_toArray, List.set_cons_zero, List.set_cons_succ])
    refine wpAnyR_done (by kernel_rfl) ?_ _
    gi_wp2
    have hzA5 : W4.heap.size ≤ W5.heap.size := hg2.size
    obtain ⟨W6, hW6⟩ : ∃ W6, W5.setCell ⟨W.heap.size + 1 + 1, 1, none⟩ (.slice (some ⟨g2, 0, none⟩) 1 cap2) = W6 := ⟨_, rfl⟩
    rw [hW6]
    have hk6 : Kpt (fun i => i = W.heap.size + 1 + 1) W5 W6 := by rw [← hW6]; exact Kpt.setCell W5 ⟨W.heap.size + 1 + 1, 1, none⟩ _
    have hbx6 := hk6.at hbx5 (by omega)
    have hbg6 : W6.heap[W.heap.size + 1 + 1]? = some (.cells (cs.setIfInBounds 1 (.slice (some ⟨g2, 0, none⟩) 1 cap2)) 65 (0, 0)) := by rw [← hW6]; exact blk_set hbg5 1 _
    have hS6 : Kd.S kRows tRow W6 W.heap.size (fun k => ((M k ∧ k ≠ W.heap.size ∧ k ≠ W.heap.size + 1 + 1) ∨ A.heap.size ≤ k) ∧ k < W6.heap.size) (.slice (some ⟨g2, 0, none⟩) 1 cap2) [x] := by
      have h3 : Kd.S kRows tRow W6 W.heap.size (fun k => (M k ∧ k ≠ W.heap.size ∧ k ≠ W.heap.size + 1 + 1) ∨ A.heap.size ≤ k) (.slice (some ⟨g2, 0, none⟩) 1 cap2) [x] := by
        rw [← hW6]
        exact Kd.S_far (p := ⟨W.heap.size + 1 + 1, 1, none⟩) hS2 (fun k hk => by rcases hk with hk | hk; exact hk.2.2; show k ≠ W.heap.size + 1 + 1; omega) _
      exact Kd.S_mono (Kd.S_bound h3) (fun k hk => ⟨hk.1, hk.2.2.1⟩)
    have hKA6 : Kpt M A W6 := by
      refine ((Kpt.of_new M hb4A).trans (Kpt.grown hg2) (M := M) (fun i hi h => ?_)).trans hk6 (fun i hi h => ?_)
      · rcases h with h | h
        · exact h
        · exact ((Kd.S_R hS).1 i h.symm).1
      · rcases h with h | h
        · exact h
        · rw [h]; exact hMG
    have hz6 := hKA6.size
    have hcs1 : 1 < cs.size := by
      rcases Nat.lt_or_ge 1 cs.size with h | h
      · exact h
      · rw [Array.getElem?_eq_none h] at c1; cases c1
    refine ⟨fun i => (M i ∨ A.heap.size ≤ i) ∧ i < W6.heap.size, fun i hi => ⟨by rcases hi.1 with h | h; exact .inl h; exact .inr (.inr h), hi.2⟩, hKA6.mono (fun _ _ h => .inl h), ⟨.inl hMB, by omega⟩, ⟨.inl hMG, by omega⟩, hbx6, ⟨cs.setIfInBounds 1 (.slice (some ⟨g2, 0, none⟩) 1 cap2), .slice (some ⟨g2, 0, none⟩) 1 cap2, hbg6, ?_, ?_, ?_⟩, fun i hi => by rcases hi.1 with h | h; exact hMW i h; omega, hBW.trans (hKA6.below hBW.size (fun i _ h => hMW i h))⟩
    · rw [Array.getElem?_setIfInBounds_ne (by omega)]; exact c0
    · rw [Array.getElem?_setIfInBounds_self_of_lt hcs1]
    · refine Kd.S_mono hS6 (fun k hk' => ?_)
      have hlt' := hk'.2
      rcases hk'.1 with h | h
      · exact ⟨⟨.inl h.1, by omega⟩, h.2.1, h.2.2⟩
      · exact ⟨⟨.inr h, by omega⟩, by omega, by omega⟩
  case done =>
    intro D W2 M' hI hk hM' hD hDw hDM
    obtain ⟨hMB, hMG, hbx, ⟨cs, rv, hbg, c0, c1, hS⟩, hMW, hBW⟩ := hI
    obtain ⟨RA, rc, rfl⟩ := Kd.S_slice hS
    simp only [List.length_cons, List.length_nil, Nat.zero_add] at c1 hS
    have hr := (Kd.S_reads' hS).2.2
    have e5 : W2.cell? ⟨W.heap.size, 0, none⟩ = some (.slice (some ⟨W.heap.size + 1 + 1, 0, none⟩) 1 cap) := blk_cell hbx 0
    have hbwW2 : Below w.heap.size w W2 := hW.trans (hBW.mono hzw)
    have hMcW : ∀ i, Mc i → i < W.heap.size := fun i h => (hMc i h).2
    have hzW2 := hBW.size
    gi_wp2
    gi_loopw [56] (fun i wr => (i = .int .i64 0 ∧ wr = W2) ∨ (i = .int .i64 1 ∧ ∃ M9, J [one1] M9 wr ∧ (∀ i, M9 i → (Mc i ∨ W2.heap.size ≤ i) ∧ i < wr.heap.size) ∧ Kpt Mc W2 wr)) (fun i _ => 1 - (intOf i).toNat)
    case atStart => exact .inl ⟨rfl, rfl⟩
    case round =>
      rcases hrel with ⟨rfl, hwr⟩ | ⟨rfl, M9, hJ9, hM9, hk9⟩
      · obtain rfl := hwr.symm
        have g0 : W2.cell? ⟨W.heap.size + 1 + 1, 0, none⟩ = some (.slice none 0 0) := (blk_cell hbg 0).trans c0
        have g1 : W2.cell? ⟨W.heap.size + 1 + 1, 1, none⟩ = some (.slice RA 1 rc) := (blk_cell hbg 1).trans c1
        gi_wp2
        refine ⟨trivial, rfl, callsIn_wide.2 ((clone_nil _).mono ?_)⟩
        rintro e W3 ⟨rfl, rfl⟩
        have hb3 : Below W2.heap.size W2 (W2.alloc (.cells #[.slice none 0 0, .slice RA 1 rc] 65)) := below_alloc (Below.refl _ _) _
        have d3 : (W2.alloc (.cells #[.slice none 0 0, .slice RA 1 rc] 65)).cell? ⟨b3, 0, none⟩ = some (.slice (some ⟨ga, 0, none⟩) 1 ca) := pw_cell_below (hbwW2.trans (hb3.mono hbwW2.size)) h3
        gi_wp2
        obtain ⟨W3, hW3⟩ : ∃ W3, W2.alloc (.cells #[.slice none 0 0, .slice RA 1 rc] 65) = W3 := ⟨_, rfl⟩
        rw [hW3] at d3 hb3 ⊢
        have hsz3 : W3.heap.size = W2.heap.size + 1 := by rw [← hW3]; simp
        have hx11 : W3.heap[W2.heap.size]? = some (.cells #[.slice none 0 0, .slice RA 1 rc] 65 (0, 0)) := by rw [← hW3]; exact blk_new _ _
        clear hW3
        have hbw3 : Below w.heap.size w W3 := hbwW2.trans (hb3.mono hbwW2.size)
        gi_loopw [12, 65] (fun out i V => (out = .slice none 0 0 ∧ i = .int .i64 0 ∧ V = W3) ∨ (i = .int .i64 1 ∧ kS.R tS V W3.heap.size (fun _ => True) out one1 ∧ Below W3.heap.size W3 V)) (fun _ i _ => 1 - (intOf i).toNat)
        case atStart => exact .inl ⟨rfl, rfl, rfl⟩
        case round =>
          rcases hrel with ⟨rfl, rfl, hwr⟩ | ⟨rfl, hRo, hBo⟩
          · obtain rfl := hwr.symm
            refine wpIn_wide.2 ?_
            have a0 := pw_cell_below hbw3 h4
            have a1 := pw_cell_below hbw3 h5
            have f0 := blk_cell (blk_alloc hx11 (.cells #[.int .i64 0, .int .i64 0] 48)) 0
            have f1 := blk_cell (blk_alloc hx11 (.cells #[.int .i64 0, .int .i64 0] 48)) 1
            go_wp2_with fail
            refine (told_count none 0 0 RA [row] rc 0 _ (Kd.C_alloc (Kd.C_below hr hb3) _) (by simp)).mono ?_
            rintro e W5 ⟨rfl, hb5⟩
            have hb5' : Below W3.heap.size W3 W5 := (below_alloc (Below.refl _ _) _).trans (hb5.mono (by simp))
            have h1l : (([row] : List Row).length : Int) = 1 := rfl
            rw [h1l]
            go_wp2_with (at_builtin; refine Kd.R_append kS (w0 := W3) W3.heap.size rfl (.tmp 69) (.tmp 73) 31 42 _ 40 rfl Try.underlying31 infoS rfl (by decide) (by decide) (.slice none 0 0) [] ⟨2, false, 1, ⟨#[]⟩⟩ [.int .i64 2, .bool false, .int .i64 1, .string ⟨#[]⟩] (fun _ => True) (fun _ => False) rfl rfl (k42_mkM _ _ _ _) (fun _ h => h.elim) (fun _ _ => trivial) (Kd.R_nil _ _ _ _ _) hb5' (by have := hb5'.size; omega) (by decide) ?_; intro v1 w1 hv1 hB1 hg1 hat1)
            go_roundw
            case rel => exact .inr ⟨by go_num, hv1, hB1⟩
            case measure => simp [intOf]
          · have hcl : [] ++ [one1] <+: [one1] := by simp
            have hbo2 : Below W2.heap.size W2 wr := hb3.trans (hBo.mono hb3.size)
            have hszo := hBo.size
            obtain ⟨fn, tmps, assign, body, hy, hR9⟩ := hY [] one1 #[u12] (fun i => W3.heap.size ≤ i ∧ i < wr.heap.size) wr Mc (hJ _ _ _ _ h0 (Kpt.of_new _ (hBW.trans (hbo2.mono hBW.size)))) hcl
              ⟨_, rfl, Kd.R_lower (Kd.R_mono (Kd.R_bound hRo) (fun i hi => ⟨hi.2.1, hi.2.2.1⟩)) (by have := hbwW2.size; omega), fun i hi => hi.2⟩
              (fun i hi => ⟨(hMc i hi).1, by have := hMcW i hi; omega⟩) (fun i hi => ⟨by omega, hi.2, fun h => by have := hMcW i h; omega⟩) (by omega)
            gi_wp2
            refine ⟨rfl, hR9.mono ?_⟩
            rintro e W9 ⟨M9, hM9, hk9, hor⟩
            have hMM : ∀ i, M9 i → (Mc i ∨ W2.heap.size ≤ i) ∧ i < W9.heap.size := fun i hi => ⟨by rcases (hM9 i hi).1 with h | h | h; exact .inl h; exact .inr (by omega); exact .inr (by omega), (hM9 i hi).2⟩
            have hKK : Kpt Mc W2 W9 := (Kpt.of_new Mc hbo2).trans hk9 (fun i hi h => by
              rcases h with h | h | h
              · exact h
              · exact h
              · omega)
            rcases hor with ⟨rfl, hJ9⟩ | ⟨rfl, hJ9⟩
            · gi_wp2
              go_roundw
              case rel => exact .inr ⟨by go_num, M9, hJ9, hMM, hKK⟩
              case measure => simp [intOf]
            · gi_wp2
              have hDW : W.heap.size ≤ D := by omega
              have hD2 : D < W2.heap.size := (Array.getElem?_eq_some_iff.1 hD).1
              have hDk : W9.heap[D]? = some (.deferred (some [])) := hKK.at hD (fun h => by have := hMcW D h; omega)
              refine ⟨by simp, .inl ⟨_, _, rfl, run_takeDeferred hDk, ?_⟩⟩
              obtain ⟨M4, h41, h42, h43⟩ := J2.ends (o := .deferred none) hJx hMcW hBW (⟨M9, hJ9, fun i => Iff.rfl, hMM, hKK⟩ : J2 Jx Mc W W2 [one1] (fun i => M9 i ∨ (W.heap.size ≤ i ∧ i < W2.heap.size)) W9) hDW (fun h => by omega)
              exact ⟨_, results_none rfl _ _ _, ⟨_, rfl⟩, M4, h41, h42, .inr ⟨_, hcl, h43⟩⟩
      · gi_wp2
        have hDW : W.heap.size ≤ D := by omega
        have hD2 : D < W2.heap.size := (Array.getElem?_eq_some_iff.1 hD).1
        have hDk : wr.heap[D]? = some (.deferred (some [])) := hk9.at hD (fun h => by have := hMcW D h; omega)
        refine ⟨by simp, .inl ⟨_, _, rfl, run_takeDeferred hDk, ?_⟩⟩
        obtain ⟨M4, h41, h42, h43⟩ := J2.ends (o := .deferred none) hJ hMcW hBW (⟨M9, hJ9, fun i => Iff.rfl, hM9, hk9⟩ : J2 J Mc W W2 [one1] (fun i => M9 i ∨ (W.heap.size ≤ i ∧ i < W2.heap.size)) wr) hDW (fun h => by omega)
        exact ⟨_, results_none rfl _ _ _, ⟨_, rfl⟩, M4, h41, h42, .inl h43⟩
end Go.Proofs.Ytghblnldokpceaa.QV
/- exec.Group where the rows are counted, as a function. -/
namespace Go.Proofs.Ytghblnldokpceaa.QV
open Go.RowKit Go.Proofs.YtghblnldokpceaaW.PrintWords Go.Proofs.Ytghblnldokpceaa.SeqW Go.Shelf Go.Proofs.Ytghblnldokpceaa.Op
set_option linter.unusedVariables false
set_option linter.unusedSimpArgs false
attribute [local go_sem] Oper.semAt_some

theorem clone_ints_nil (w : World) : Calls Try.prog 37 #[.slice none 0 0] w fun e w' => e = .returned (.slice none 0 0) ∧ w' = w := by
  have hn := Lib.run_eql_slice_nil (P := Try.prog)
  go_enter Try.func37, Try.ntmps37
  go_wp2
  go_ret
  exact ⟨rfl, rfl⟩
/-! the kind of api.Agg, as the print spells kinds -/
structure S48 where
  f0 : Int
  f1 : Int
def k48 : Kd S48 := Kd.iso (Kd.pair (Kd.int .i64) (Kd.int .i64)) (fun x : S48 => (x.f0, x.f1))
theorem k48_open {w : World} {x : S48} {cs : List Value} (h : k48.K w x cs) : cs = [.int .i64 x.f0, .int .i64 x.f1] := by
  obtain ⟨_, _, rfl, rfl, rfl⟩ := h
  exact rfl
theorem k48_mk (w : World) (x : S48)  : k48.K w x [.int .i64 x.f0, .int .i64 x.f1] := ⟨[.int .i64 x.f0], [.int .i64 x.f1], rfl, rfl, rfl⟩
theorem k48_mkM (w : World) (base : Nat) (ok : Nat → Prop) (x : S48)  : k48.M w base ok x [.int .i64 x.f0, .int .i64 x.f1] := ⟨[.int .i64 x.f0], [.int .i64 x.f1], rfl, rfl, rfl⟩
abbrev kA : Kd S48 := k48
theorem infoA : (Try.prog.info? 48).map (fun i => (i.zero, i.size, i.bytes)) = some (some (.agg #[.int .i64 0, .int .i64 0]), 2, 16) := by kernel_rfl
theorem kA_KM {w W : World} {base : Nat} {ok : Nat → Prop} (x : S48) (cs : List Value) (h : kA.K w x cs) : kA.M W base ok x cs := by
  rw [k48_open h]; exact k48_mkM _ _ _ _
set_option maxHeartbeats 1000000 in
theorem clone_aggs (ad : Addr) (l : List S48) (c : Nat) (w : World) (hr : kA.C w (some ad) l.length l) (hc : l.length ≤ c) (hb : l.length * 16 ≤ 140737488355328) :
    Calls Try.prog 38 #[.slice (some ad) l.length c] w fun e w' => ∃ v, e = .returned v ∧ kA.R 48 w' w.heap.size (fun _ => True) v l ∧ Below w.heap.size w w' := by
  have hmax := hr.2.1
  have hn := Lib.run_eql_slice_nil (P := Try.prog)
  go_enter Try.func38, Try.ntmps38
  go_wp2_with (at_builtin; refine Kd.R_append_rows kA (w0 := w) w.heap.size rfl (.tmp 5) (.tmp 6) 36 48 _ 16 rfl Try.underlying36 infoA rfl (by decide) (by decide) (.slice (some ⟨w.heap.size, 0, none⟩) 0 0) [] l (some ad) l.length c (fun _ => True) (fun _ => False) rfl rfl (R_empty' kA _ _ _ _ (Nat.le_refl _) trivial) (Kd.C_below hr (below_alloc (Below.refl _ _) _)) (fun x cs h => kA_KM x cs h) (fun _ h => h.elim) (fun _ _ => trivial) (below_alloc (Below.refl _ _) _) (by simp) (by simp; omega) ?_; intro v1 w4 hv1 hB7 hg7 hat7; clear hg7 hat7)
  go_ret
  exact ⟨v1, rfl, by simpa using hv1, hB7⟩

set_option maxHeartbeats 2000000 in
theorem group_is1 (row : Row) (sv : Value) (ga : Nat) (w : World) (hR : IsSeq w sv [row]) (hga : ga < w.heap.size) (ha : kA.C w (some ⟨ga, 0, none⟩) 1 [⟨0, 0⟩]) (hb : row.length ≤ 1048576) :
    Calls Try.prog 16 #[sv, .slice none 0 0, .slice (some ⟨ga, 0, none⟩) 1 1] w fun e w' => ∃ v, e = .returned v ∧ IsOwn w' v [one1] ∧ Below w.heap.size w w' := by
  obtain ⟨gR, lbR, RdR, rfl, qR⟩ := hR
  have hR : IsSeq w (.func (.func gR) #[] lbR) [row] := ⟨gR, lbR, RdR, rfl, qR⟩
  clear qR
  go_enter Try.func16, Try.ntmps16
  go_wp2_with fail
  obtain ⟨w1, hw1⟩ : ∃ w1, ((w.alloc (.cells #[.func (.func gR) #[] lbR] 28)).alloc (.cells #[.slice none 0 0] 35)).alloc (.cells #[.slice (some ⟨ga, 0, none⟩) 1 1] 36) = w1 := ⟨_, rfl⟩
  rw [hw1]
  have hb1 : Below w.heap.size w w1 := by rw [← hw1]; exact below_alloc (below_alloc (below_alloc (Below.refl _ _) _) _) _
  have g0 : w1.heap[w.heap.size]? = some (.cells #[.func (.func gR) #[] lbR] 28 (0, 0)) := by rw [← hw1]; exact blk_alloc (blk_alloc (blk_new _ _) _) _
  have g1 : w1.heap[w.heap.size + 1]? = some (.cells #[.slice none 0 0] 35 (0, 0)) := by
    have := blk_new (w.alloc (.cells #[.func (.func gR) #[] lbR] 28)) (.cells #[.slice none 0 0] 35)
    rw [World.size_alloc] at this
    rw [← hw1]; exact blk_alloc this _
  have g2 : w1.heap[w.heap.size + 1 + 1]? = some (.cells #[.slice (some ⟨ga, 0, none⟩) 1 1] 36 (0, 0)) := by
    have := blk_new ((w.alloc (.cells #[.func (.func gR) #[] lbR] 28)).alloc (.cells #[.slice none 0 0] 35)) (.cells #[.slice (some ⟨ga, 0, none⟩) 1 1] 36)
    rw [World.size_alloc, World.size_alloc] at this
    rw [← hw1]; exact this
  clear hw1
  have hz1 := blk_lt g2
  have S0 : ∀ V, Below w1.heap.size w1 V → V.cell? ⟨w.heap.size + 1, 0, none⟩ = some (.slice none 0 0) ∧ V.cell? ⟨w.heap.size + 1 + 1, 0, none⟩ = some (.slice (some ⟨ga, 0, none⟩) 1 1) ∧ V.frozen? ⟨w.heap.size + 1, 0, none⟩ = false ∧ V.frozen? ⟨w.heap.size + 1 + 1, 0, none⟩ = false :=
    fun V hV => ⟨blk_cell (blk_below g1 hV) 0, blk_cell (blk_below g2 hV) 0, blk_frozen (blk_below g1 hV) 0, blk_frozen (blk_below g2 hV) 0⟩
  refine (wpIn_wide (n := 0)).1 ?_
  refine wpIn_region_R (l := 0) 5 (S := fun V => V.cell? ⟨w.heap.size + 1, 0, none⟩ = some (.slice none 0 0) ∧ V.cell? ⟨w.heap.size + 1 + 1, 0, none⟩ = some (.slice (some ⟨ga, 0, none⟩) 1 1) ∧ V.frozen? ⟨w.heap.size + 1, 0, none⟩ = false ∧ V.frozen? ⟨w.heap.size + 1 + 1, 0, none⟩ = false) (by kernel_rfl) (S0 _ (below_drew (Below.refl _ _))) (fun hS0 => ?_)
  refine wpAnyR_take (i := 0) (oi := ⟨some 7, _, _, _, _, _⟩) (v := ?_) (by kernel_rfl) (by kernel_rfl) rfl (by kernel_rfl) (by kernel_rfl) (by kernel_rfl) (fun _ _ _ h => h) (Or.inl ⟨by rfl, ?_⟩) (by assumption) ?_
  rotate_left
  · intro w hSw; (try dsimp only at hSw); (try go_split_ands); go_simp; (try (with_reducible rfl))
  (try simp only [Act.put, List.setIfInBounds_toArray, List.set_cons_zero, List.set_cons_succ])
  refine wpAnyR_take (i := 2) (oi := ⟨some 9, _, _, _, _, _⟩) (v := ?_) (by kernel_rfl) (by kernel_rfl) rfl (by kernel_rfl) (by kernel_rfl) (by kernel_rfl) (fun _ _ _ h => h) (Or.inl ⟨by rfl, ?_⟩) (by assumption) ?_
  rotate_left
  · intro w hSw; (try dsimp only at hSw); (try go_split_ands); go_simp; (try (with_reducible rfl))
  (try simp only [Act.put, List.setIfInBounds_toArray, List.set_cons_zero, List.set_cons_succ])
  refine wpAnyR_one (i := 1) (o := ⟨some 8, _, _, _, _, _⟩) (by kernel_rfl) (by kernel_rfl) rfl (fun K hK => ?_)
  go_simp
  refine (clone_ints_nil _).mono ?_
  rintro e w2 ⟨rfl, rfl⟩
  (try dsimp only)
  refine hK.out _ _ (.inr (S0 _ (below_drew (Below.refl _ _)))) ?_
  clear hK K
  (try simp only [Act.put, List.setIfInBounds_toArray, List.set_cons_zero, List.set_cons_succ])
  refine wpAnyR_one (i := 3) (o := ⟨some 10, _, _, _, _, _⟩) (by kernel_rfl) (by kernel_rfl) rfl (fun K hK => ?_)
  go_simp
  refine (clone_aggs ⟨ga, 0, none⟩ [⟨0, 0⟩] 1 _ (Kd.C_drew (Kd.C_below ha hb1)) (by simp) (by simp)).mono ?_
  rintro e w2 ⟨v2, rfl, hR2, hb2⟩
  have hb2' : Below w1.heap.size w1 w2 := (below_drew (Below.refl _ w1)).trans hb2
  (try dsimp only)
  refine hK.out _ _ (.inr (S0 _ hb2')) ?_
  clear hK K
  (try simp only [Act.put, List.setIfInBounds_toArray, List.set_cons_zero, List.set_cons_succ])
  obtain ⟨A3, c3', hv3, hle3, hC3⟩ := Kd.R_reads hR2
  obtain ⟨g3, c3, rfl, hg3b, hg3l, cells3, hcells3⟩ := Kd.R_form hR2 (by simp)
  have hg3b' : w1.heap.size ≤ g3 := hg3b
  injection hv3 with hA3
  subst hA3
  obtain ⟨ad3, cs3, hA3, _, hK3, hcs3⟩ := Kd.C_get hC3 ⟨0, 0⟩ 0 (by omega) (by simp)
  injection hA3 with hA3
  subst hA3
  have hop := k48_open hK3
  have e30 : w2.cell? ⟨g3, 0, none⟩ = some (.int .i64 0) := hcs3 0 _ (by rw [hop]; rfl)
  have e31 : w2.cell? ⟨g3, 1, none⟩ = some (.int .i64 0) := hcs3 1 _ (by rw [hop]; rfl)
  have hS2 := S0 _ hb2'
  obtain ⟨q1, q2, q3, q4⟩ := hS2
  refine wpAnyR_one (i := 4) (o := ⟨none, _, _, _, _, _⟩) (by kernel_rfl) (by kernel_rfl) rfl (fun K hK => ?_)
  go_simp
  obtain ⟨w3, hw3⟩ : ∃ w3, w2.setCell ⟨w.heap.size + 1, 0, none⟩ (.slice none 0 0) = w3 := ⟨_, rfl⟩
  rw [hw3]
  have hk3 : Seq.Kpt (fun i => i = w.heap.size + 1) w2 w3 := by rw [← hw3]; exact Seq.Kpt.setCell w2 ⟨w.heap.size + 1, 0, none⟩ _
  have g13 : w3.heap[w.heap.size + 1]? = some (.cells #[.slice none 0 0] 35 (0, 0)) := by rw [← hw3]; simpa using blk_set (blk_below g1 hb2') 0 (.slice none 0 0)
  have g23 : w3.heap[w.heap.size + 1 + 1]? = some (.cells #[.slice (some ⟨ga, 0, none⟩) 1 1] 36 (0, 0)) := hk3.at (blk_below g2 hb2') (by omega)
  clear hw3
  refine hK.out _ _ (.inr ⟨blk_cell g13 0, blk_cell g23 0, blk_frozen g13 0, blk_frozen g23 0⟩) ?_
  clear hK K
  (try simp only [Act.put, List.setIfInBounds_toArray, List.set_cons_zero, List.set_cons_succ])
  have t1 := blk_cell g23 0
  have t2 := blk_frozen g23 0
  refine wpAnyR_one (i := 5) (o := ⟨none, _, _, _, _, _⟩) (by kernel_rfl) (by kernel_rfl) rfl (fun K hK => ?_)
  go_simp
  refine hK.out _ _ (.inl rfl) ?_
  clear hK K
  (try simp only [Act.put, List.setIfInBounds_toArray, List.set_cons_zero, List.set_cons_succ])
  refine wpAnyR_done (by kernel_rfl) ?_ _
  go_wp2
  go_ret
  obtain ⟨w4, hw4⟩ : ∃ w4, w3.setCell ⟨w.heap.size + 1 + 1, 0, none⟩ (.slice (some ⟨g3, 0, none⟩) 1 c3') = w4 := ⟨_, rfl⟩
  rw [hw4]
  have hk4 : Seq.Kpt (fun i => i = w.heap.size + 1 + 1) w3 w4 := by rw [← hw4]; exact Seq.Kpt.setCell w3 ⟨w.heap.size + 1 + 1, 0, none⟩ _
  have g24 : w4.heap[w.heap.size + 1 + 1]? = some (.cells #[.slice (some ⟨g3, 0, none⟩) 1 c3'] 36 (0, 0)) := by rw [← hw4]; simpa using blk_set g23 0 (.slice (some ⟨g3, 0, none⟩) 1 c3')
  have g14 := hk4.at g13 (by omega)
  have g04 := hk4.at (hk3.at (blk_below g0 hb2') (by omega)) (by omega)
  have hg3 := hk4.at (hk3.at hcells3 (by omega)) (by omega)
  have hB4 : Below w.heap.size w w4 := (hb1.trans (hb2'.mono hb1.size)).trans ((hk3.trans hk4 (M := fun i => i = w.heap.size + 1 ∨ i = w.heap.size + 1 + 1) (fun _ _ h => h)).below (by have := hb2'.size; omega) (fun i _ h => by omega))
  refine ⟨_, rfl, ⟨_, _, rfl, fun args w => rfl, group_seq1 row _ _ _ _ g3 c3' w4 (hR.later hB4) (blk_cell g14 0) (blk_cell g04 0) (blk_cell g24 0) ?_ ?_ hb⟩, hB4⟩
  · rw [blk_cell hg3 0, ← blk_cell hcells3 0]; exact e30
  · rw [blk_cell hg3 1, ← blk_cell hcells3 1]; exact e31
end Go.Proofs.Ytghblnldokpceaa.QV
/- hayloftlaw15.alive. -/
namespace Go.Proofs.Ytghblnldokpceaa.QV
open Go.RowKit Go.Proofs.YtghblnldokpceaaW.PrintWords Go.Proofs.Ytghblnldokpceaa.Seq Go.Shelf Go.Proofs.Ytghblnldokpceaa.Op
set_option linter.unusedVariables false
set_option linter.unusedSimpArgs false

theorem C_one {α : Type} (d : Kd α) (w : World) (g : Nat) (x : α) (cs : List Value) (hK : d.K w x cs) (hc : ∀ i u, cs[i]? = some u → w.cell? ⟨g, i, none⟩ = some u) : d.C w (some ⟨g, 0, none⟩) 1 [x] := by
  refine ⟨rfl, by decide, fun _ => ⟨_, rfl, fun j p hj => ?_⟩⟩
  match j with
  | 0 =>
    simp at hj
    subst hj
    exact ⟨cs, d.K_len hK, hK, fun i u hu => by
      have := hc i u hu
      by_cases h0 : i = 0
      · subst h0; simpa [Addr.add] using this
      · simpa [Addr.add, h0] using this⟩
  | j + 1 => simp at hj
theorem IsSeq.form {w : World} {sv : Value} {xs : List Row} (h : IsSeq w sv xs) : ∃ g lb, sv = .func (.func g) #[] lb := by
  obtain ⟨g, lb, _, h, _⟩ := h
  exact ⟨g, lb, h⟩
def row2 : Row := [⟨2, false, 2, ⟨#[]⟩⟩]
theorem join_row2 : joinL [row2] [row2] 0 0 = [row2 ++ row2] := by
  have h : cmpV (toV ⟨2, false, 2, ⟨#[]⟩⟩) (toV ⟨2, false, 2, ⟨#[]⟩⟩) = 0 := cmpV_self _
  simp [joinL, joinOne, nzB, hitB, atS, row2, h]
/-- What an iterator whose rows are its consumer's own gives, gathered. -/
theorem all_is (sv : Value) (xs : List Row) (w0 w : World) (h : IsOwn w0 sv xs) (hb0 : Below w0.heap.size w0 w) (hx : ∀ x ∈ xs, x.length * 40 ≤ 140737488351232) (hn : xs.length * 24 ≤ 140737488351232) :
    Calls Try.prog 18 #[sv] w fun e w' => ∃ v, e = .returned v ∧ Kd.S kRows tRow w' w.heap.size (fun _ => True) v xs ∧ Below w.heap.size w w' := by
  obtain ⟨g, lb, rfl, eg, hs⟩ := h
  exact all_any g lb xs w0 w eg hs hb0 hx hn

set_option maxRecDepth 100000 in
set_option maxHeartbeats 4000000 in
theorem aliveX_any (w : World) : Calls Try.prog 9 #[] w fun e w' => e = .returned (.bool true) ∧ Below w.heap.size w w' := by
  obtain ⟨kc, hkc⟩ := copied_f [row2] (by simp) (by simp [row2])
  have hj2 := join_row2
  go_enter Try.func9, Try.ntmps9
  go_wp2_with fail
  obtain ⟨w1, hw1⟩ : ∃ w1, (w.alloc (.cells #[.int .i64 2, .bool false, .int .i64 2, .string ⟨#[]⟩] 42)).alloc (.cells #[.slice (some ⟨w.heap.size, 0, none⟩) 1 1] 31) = w1 := ⟨_, rfl⟩
  rw [hw1]
  have hb1 : Below w.heap.size w w1 := by rw [← hw1]; exact below_alloc (below_alloc (Below.refl _ _) _) _
  have g0 : w1.heap[w.heap.size]? = some (.cells #[.int .i64 2, .bool false, .int .i64 2, .string ⟨#[]⟩] 42 (0, 0)) := by rw [← hw1]; exact blk_alloc (blk_new _ _) _
  have g1 : w1.heap[w.heap.size + 1]? = some (.cells #[.slice (some ⟨w.heap.size, 0, none⟩) 1 1] 31 (0, 0)) := by
    have := blk_new (w.alloc (.cells #[.int .i64 2, .bool false, .int .i64 2, .string ⟨#[]⟩] 42)) (.cells #[.slice (some ⟨w.heap.size, 0, none⟩) 1 1] 31)
    rw [World.size_alloc] at this
    rw [← hw1]; exact this
  clear hw1
  have hr0 : kS.C w1 (some ⟨w.heap.size, 0, none⟩) 1 row2 := C_one kS w1 w.heap.size _ _ (k42_mk w1 ⟨2, false, 2, ⟨#[]⟩⟩) (fun i u hu => by rw [blk_cell g0 i]; simpa using hu)
  have hr1 : kRows.C w1 (some ⟨w.heap.size + 1, 0, none⟩) [row2].length [row2] := C_one kRows w1 (w.heap.size + 1) row2 [.slice (some ⟨w.heap.size, 0, none⟩) row2.length 1] ⟨_, _, rfl, by simp [row2], hr0⟩ (fun i u hu => by rw [blk_cell g1 i]; simpa [row2] using hu)
  -- exec.Join
  refine (values_is _ [row2] 1 w1 hr1).mono ?_
  rintro e w2 ⟨v2, rfl, hs2, hb2⟩
  obtain ⟨f2, l2, rfl⟩ := hs2.form
  have hB2 := hb1.trans (hb2.mono hb1.size)
  go_wp2_with fail
  refine (hayloftlaw15_copied.calls kc _ 1 [row2] [row2] w2 (Kd.C_below hr1 hb2) (by simp) hkc).mono ?_
  rintro e w3 ⟨v3, rfl, hS3, hb3⟩
  have hB3 := hB2.trans (hb3.mono hB2.size)
  obtain ⟨A3, c3, rfl, hle3, hC3⟩ := Kd.S_reads hS3
  go_wp2_with fail
  refine (values_is A3 [row2] c3 w3 hC3).mono ?_
  rintro e w4 ⟨v4, rfl, hs4, hb4⟩
  obtain ⟨f4, l4, rfl⟩ := hs4.form
  have hB4 := hB3.trans (hb4.mono hB3.size)
  go_wp2_with fail
  refine (join_is [row2] [row2] 0 0 _ _ w4 ((hs2.later hb3).later hb4) hs4 (by simp [row2]) (by simp [row2]) (by simp)).mono ?_
  rintro e w5 ⟨v5, rfl, hs5, hb5⟩
  rw [hj2] at hs5
  obtain ⟨f5, l5, rfl⟩ := hs5.seq.form
  have hB5 := hB4.trans (hb5.mono hB4.size)
  go_wp2_with fail
  refine (all_is _ [row2 ++ row2] w5 w5 hs5 (Below.refl _ _) (by simp [row2]) (by simp)).mono ?_
  rintro e w6 ⟨v6, rfl, hS6, hb6⟩
  have hB6 := hB5.trans (hb6.mono hB5.size)
  obtain ⟨A6, c6, rfl, hle6, hC6⟩ := Kd.S_reads hS6
  go_wp2_with fail
  -- exec.Group
  have hb16 : Below w1.heap.size w1 w6 := (((hb2.trans (hb3.mono hb2.size)).trans (hb4.mono (by have := hb2.size; have := hb3.size; omega))).trans (hb5.mono (by have := hb2.size; have := hb3.size; have := hb4.size; omega))).trans (hb6.mono (by have := hb2.size; have := hb3.size; have := hb4.size; have := hb5.size; omega))
  refine (hayloftlaw15_copied.calls kc _ 1 [row2] [row2] w6 (Kd.C_below hr1 hb16) (by simp) hkc).mono ?_
  rintro e w7 ⟨v7, rfl, hS7, hb7⟩
  have hB7 := hB6.trans (hb7.mono hB6.size)
  obtain ⟨A7, c7, rfl, hle7, hC7⟩ := Kd.S_reads hS7
  go_wp2_with fail
  refine (values_is A7 [row2] c7 w7 hC7).mono ?_
  rintro e w8 ⟨v8, rfl, hs8, hb8⟩
  obtain ⟨f8, l8, rfl⟩ := hs8.form
  have hB8 := hB7.trans (hb8.mono hB7.size)
  go_wp2_with fail
  obtain ⟨w9, hw9⟩ : ∃ w9, w8.alloc (.cells #[.int .i64 0, .int .i64 0] 48) = w9 := ⟨_, rfl⟩
  rw [hw9]
  have hb9 : Below w8.heap.size w8 w9 := by rw [← hw9]; exact below_alloc (Below.refl _ _) _
  have g9 : w9.heap[w8.heap.size]? = some (.cells #[.int .i64 0, .int .i64 0] 48 (0, 0)) := by rw [← hw9]; exact blk_new _ _
  clear hw9
  have hB9 := hB8.trans (hb9.mono hB8.size)
  refine (group_is1 row2 _ w8.heap.size w9 (hs8.later hb9) (blk_lt g9) (C_one kA w9 w8.heap.size ⟨0, 0⟩ _ (k48_mk w9 ⟨0, 0⟩) (fun i u hu => by rw [blk_cell g9 i]; simpa using hu)) (by simp [row2])).mono ?_
  rintro e w10 ⟨v10, rfl, hs10, hb10⟩
  obtain ⟨f10, l10, rfl⟩ := hs10.seq.form
  have hB10 := hB9.trans (hb10.mono hB9.size)
  go_wp2_with fail
  refine (all_is _ [one1] w10 w10 hs10 (Below.refl _ _) (by simp [one1]) (by simp)).mono ?_
  rintro e w11 ⟨v11, rfl, hS11, hb11⟩
  have hB11 := hB10.trans (hb11.mono hB10.size)
  obtain ⟨A11, c11, rfl, hle11, hC11⟩ := Kd.S_reads hS11
  have hb611 : Below w6.heap.size w6 w11 := ((((hb7.trans (hb8.mono hb7.size)).trans (hb9.mono (by have := hb7.size; have := hb8.size; omega))).trans (hb10.mono (by have := hb7.size; have := hb8.size; have := hb9.size; omega))).trans (hb11.mono (by have := hb7.size; have := hb8.size; have := hb9.size; have := hb10.size; omega)))
  obtain ⟨ad, cs, rfl, _, ⟨Ax, cx, rfl, hlex, hCx⟩, hcs⟩ := Kd.C_get (Kd.C_below hC6 hb611) [] 0 (by omega) (by simp)
  obtain ⟨am, cm, rfl, _, ⟨Ay, cy, rfl, hley, hCy⟩, hcm⟩ := Kd.C_get hC11 [] 0 (by omega) (by simp)
  obtain ⟨ay, cn, rfl, _, hKy, hcn⟩ := Kd.C_get hCy zV 0 (by omega) (by simp [one1])
  have hop := k42_open hKy
  have m0 := hcs 0 _ rfl
  have m1 := hcm 0 _ rfl
  have m2 := hcn 2 (.int .i64 1) (by rw [hop]; rfl)
  have z0 : ∀ a : Addr, a.add 0 = a := fun a => by cases a; simp [Addr.add]
  have m0' : w11.cell? ad = some (.slice Ax 2 cx) := by rw [← z0 ad]; exact m0
  have m1' : w11.cell? am = some (.slice (some ay) 1 cy) := by rw [← z0 am]; exact m1
  have m2' : w11.cell? ⟨ay.block, ay.off + 2, none⟩ = some (.int .i64 1) := by
    have := add_field ay 0 2 (by omega)
    rw [z0] at this
    rw [← this]; exact m2
  clear m0 m1 m2 hcs hcm hcn
  go_wp2_with fail
  go_ret
  exact ⟨rfl, hB11⟩
end Go.Proofs.Ytghblnldokpceaa.QV
/- exec.Rejoin, and ExecRejoins: the walks. -/
namespace Go.Proofs.Ytghblnldokpceaa.QV
open Go.RowKit Go.Proofs.YtghblnldokpceaaW.PrintWords Go.Proofs.Ytghblnldokpceaa.SeqW Go.Proofs.Ytghblnldokpceaa.SeqX Go.Shelf Go.Proofs.Ytghblnldokpceaa.Op Go.Proofs.Ytghblnldokpceaa.Stab
set_option linter.unusedVariables false
set_option linter.unusedSimpArgs false

theorem btr3 {a b c : World} (h : Below a.heap.size a b) (k : Below b.heap.size b c) : Below a.heap.size a c := h.trans (k.mono h.size)
/-- The search, of a list that is sorted so. -/
theorem find_rejoin {b R : List Ver} (hs : Sorts zVer (fun x y => ordI x.f0 y.f0) b R) (v : Ver) (i : Nat) (f : Bool) (h : R.find? (isId v.f0) = if f then some (R.getD i zVer) else none) : rejoin1 b v = if f then some ⟨v.f0, v.f1 ++ (R.getD i zVer).f1, v.f2⟩ else none := by
  unfold rejoin1
  rw [← first_same hs v.f0, h]
  cases f <;> rfl
set_option maxRecDepth 100000 in
set_option maxHeartbeats 8000000 in
theorem rejoin_any (A0 : Option Addr) (c0 : Nat) (a : List Ver) (A1 : Option Addr) (c1 : Nat) (b : List Ver) (w : World) (H0 : kVer.C w A0 a.length a) (C0 : a.length ≤ c0) (H1 : kVer.C w A1 b.length b) (C1 : b.length ≤ c1)
    (ha : ∀ x ∈ a, x.f1.length ≤ 1048576) (hb : ∀ x ∈ b, x.f1.length ≤ 1048576) (hna : a.length ≤ 1048576) (hnb : b.length ≤ 1048576) :
    Calls Try.prog 28 #[.slice A0 a.length c0, .slice A1 b.length c1] w fun e w' => ∃ v, e = .returned v ∧ Kd.S kVer tVer w' w.heap.size (fun _ => True) v (rejoinL a b) ∧ Below w.heap.size w w' := by
  have hma := H0.2.1
  -- the sorted list, in whatever way it is got
  have hsort : ∀ (v : Value) (w2 : World), Kd.N kVer tVer w2 w.heap.size (fun _ => True) v b → Below w.heap.size w w2 →
      Calls Try.prog 55 #[v, .func (.func 56) #[] #[]] w2 fun e w3 => e = .returned (.tuple #[]) ∧ ∃ (AR : Option Addr) (cR : Nat) (R : List Ver), v = .slice AR R.length cR ∧ R.length ≤ cR ∧ kVer.C w3 AR R.length R ∧ Sorts zVer (fun x y => ordI x.f0 y.f0) b R ∧ Below w.heap.size w w3 := by
    intro v w2 hN hB
    by_cases h0 : b.length = 0
    · obtain rfl : b = [] := List.eq_nil_of_length_eq_zero h0
      obtain ⟨Af, cf, rfl⟩ := Kd.N_slice hN
      refine (sortStableV_nil Af cf _ ⟨_, _, rfl⟩ w2).mono ?_
      rintro e w5 ⟨rfl, rfl⟩
      exact ⟨rfl, Af, cf, [], rfl, Nat.zero_le _, (Kd.N_reads' hN).2.2, Sorts.nil _ _, hB⟩
    · obtain ⟨g, cap, enc, rest, rfl, hcap, hgb, hgl, hE, henc⟩ := vers_enc hN (by omega)
      have hcmp : CmpAtV (fun i j => ordI (b.getD i zVer).f0 (b.getD j zVer).f0) enc 56 #[] g w2 := by
        intro i j V hV
        obtain ⟨Ai, ci, hi⟩ := (henc i).1
        obtain ⟨Aj, cj, hj⟩ := (henc j).1
        rw [hi, hj]
        exact cmpRe_any (b.getD i zVer) (b.getD j zVer) _ _ ⟨_, _, rfl⟩ ⟨_, _, rfl⟩ V
      refine (sortStableV_any g b.length cap _ _ _ ((preI.on (fun x : Ver => x.f0)).ok zVer b) enc rest (by omega) (fun args w => rfl) (fun i => by obtain ⟨A, c, h⟩ := (henc i).1; exact ⟨_, _, A, _, c, _, h⟩) (List.range b.length) w2 hE (by simp) List.pairwise_lt_range hcmp).mono ?_
      rintro e w5 ⟨rfl, S, hp, hs, hk5, hE5⟩
      have hSl : S.length = b.length := by rw [hp.length_eq, List.length_range]
      have hml : (S.map (fun i => b.getD i zVer)).length = b.length := by rw [List.length_map, hSl]
      exact ⟨rfl, some ⟨g, 0, none⟩, cap, S.map (fun i => b.getD i zVer), by rw [hml], by omega, enc_vers hE5 (by omega) (fun i => ⟨(henc i).1, (henc i).2 w5 hk5⟩), ⟨S, hp, hs, rfl⟩, hB.trans (hk5.below hB.size (fun t _ e => by rw [e]; exact hgb))⟩
  have HSORT := Lib.hid hsort
  clear hsort
  go_enter Try.func28, Try.ntmps28
  go_wp2_with fail
  refine (clone_vers A1 b c1 w H1 C1 (by omega)).mono ?_
  rintro e w2 ⟨v2, rfl, hN2, hb2⟩
  go_wp2_with fail
  refine (HSORT.out v2 w2 hN2 hb2).mono ?_
  rintro e w3 ⟨rfl, AR, cR, R, rfl, hcR, hCR, hSR, hB3⟩
  have hRl : R.length = b.length := hSR.len
  have HRl := Lib.hid hRl
  have hRm : ∀ x ∈ R, x.f1.length ≤ 1048576 := fun x hx => hb x (hSR.perm.mem_iff.1 hx)
  have hRn : R.length ≤ 1048576 := by omega
  have hRs := hSR.sorted
  clear hN2 hRl
  go_wp2_with fail
  go_loopw [6, 17] (fun ov iv wr => ∃ i : Nat, i ≤ a.length ∧ iv = .int .i64 (i : Int) ∧ Kd.S kVer tVer wr w3.heap.size (fun _ => True) ov (rejoinL (a.take i) b) ∧ Below w3.heap.size w3 wr) (fun _ iv _ => a.length - (intOf iv).toNat)
  case atStart => exact ⟨0, Nat.zero_le _, rfl, by simpa [rejoinL] using Kd.S_nil _ _ _ _ _, Below.refl _ _⟩
  case round =>
    obtain ⟨i, hi, rfl, hS, hB⟩ := hrel
    have hBw : Below w.heap.size w wr := hB3.trans (hB.mono hB3.size)
    by_cases hlt : i < a.length
    · have hlz : (i : Int) < (a.length : Int) := by omega
      obtain ⟨ad, Ax, cx, rfl, q0, q1, q2, q3, hlx, hCx⟩ := kVer_at (Kd.C_below H0 hBw) i hlt
      have hts := take_snoc' zVer a i hlt
      have hsn := rejoinL_snoc (a.take i) b (a.getD i zVer)
      rw [hts] at hsn
      have hxa := ha _ (getD_mem zVer hlt)
      have hPl : (rejoinL (a.take i) b).length ≤ i := Nat.le_trans (rejoinL_len _ _) (by rw [List.length_take]; omega)
      generalize rejoinL (a.take i) b = P at *
      generalize a.getD i zVer = x at *
      have HSN := Lib.hid hsn
      clear hsn hts
      go_wp2_with fail
      obtain ⟨w4, hw4⟩ : ∃ w4, wr.alloc (.cells #[.int .u64 x.f0.f0, .int .u32 x.f0.f1, .slice Ax x.f1.length cx, .int .u64 x.f2] 85) = w4 := ⟨_, rfl⟩
      rw [hw4]
      have hb4 : Below wr.heap.size wr w4 := by rw [← hw4]; exact below_alloc (Below.refl _ _) _
      have g4 : w4.heap[wr.heap.size]? = some (.cells #[.int .u64 x.f0.f0, .int .u32 x.f0.f1, .slice Ax x.f1.length cx, .int .u64 x.f2] 85 (0, 0)) := by rw [← hw4]; exact blk_new _ _
      clear hw4
      have hB4 : Below w3.heap.size w3 w4 := hB.trans (hb4.mono hB.size)
      refine (search_any AR R cR x.f0 w4 (Kd.C_below hCR hB4) hcR hRs hRn).mono ?_
      rintro e w5 ⟨k, f, rfl, hfe, hfind, hb5⟩
      have hrj := find_rejoin hSR x k f hfind
      have hb45 : Below wr.heap.size wr w5 := hb4.trans (hb5.mono hb4.size)
      have hB5 : Below w3.heap.size w3 w5 := hB.trans (hb45.mono hB.size)
      have g5 : w5.heap[wr.heap.size]? = some (.cells #[.int .u64 x.f0.f0, .int .u32 x.f0.f1, .slice Ax x.f1.length cx, .int .u64 x.f2] 85 (0, 0)) := blk_below g4 hb5
      have HRJ := Lib.hid hrj
      have HFE := Lib.hid hfe
      clear hrj hfind hfe q0 q1 q2 q3
      cases f with
      | false =>
        go_wp2_with fail
        go_roundw
        case rel =>
          refine ⟨i + 1, by omega, by go_num, ?_, hB5⟩
          rw [HSN.out, HRJ.out]
          simpa using Kd.S_below hS hb45
        case measure => simp [intOf]; omega
      | true =>
        have hkl : k < R.length := (of_decide_eq_true HFE.out.symm).1
        have hklz : (k : Int) < (R.length : Int) := by omega
        obtain ⟨ar, Ay, cy, rfl, r0, r1, r2, r3, hly, hCy⟩ := kVer_at hCR k hkl
        have hyb := hRm _ (getD_mem zVer hkl)
        have HRJ2 := HRJ.out
        generalize R.getD k zVer = y at *
        have HRJ3 := Lib.hid HRJ2
        clear HRJ HRJ2 HFE
        have hCx5 := Kd.C_below hCx hb45
        have keep : ∀ V, V.heap[wr.heap.size]? = some (.cells #[.int .u64 x.f0.f0, .int .u32 x.f0.f1, .slice Ax x.f1.length cx, .int .u64 x.f2] 85 (0, 0)) → Below w3.heap.size w3 V → V.cell? ⟨wr.heap.size, 0, none⟩ = some (.int .u64 x.f0.f0) ∧ V.cell? ⟨wr.heap.size, 1, none⟩ = some (.int .u32 x.f0.f1) ∧ V.cell? ⟨wr.heap.size, 2, none⟩ = some (.slice Ax x.f1.length cx) ∧ V.cell? ⟨wr.heap.size, 3, none⟩ = some (.int .u64 x.f2) ∧ V.cell? ⟨(ar.add (k * 4)).block, (ar.add (k * 4)).off + 2, none⟩ = some (.slice Ay y.f1.length cy) := fun V hg hV => ⟨blk_cell hg 0, blk_cell hg 1, blk_cell hg 2, blk_cell hg 3, pw_cell_below hV r2⟩
        have KEEP := Lib.hid keep
        clear keep r0 r1 r2 r3
        go_wp2_with fail
        refine (wpIn_wide (n := 0)).1 ?_
        refine wpIn_region_X (l := 0) 18 (S := fun V => V.cell? ⟨wr.heap.size, 0, none⟩ = some (.int .u64 x.f0.f0) ∧ V.cell? ⟨wr.heap.size, 1, none⟩ = some (.int .u32 x.f0.f1) ∧ V.cell? ⟨wr.heap.size, 2, none⟩ = some (.slice Ax x.f1.length cx) ∧ V.cell? ⟨wr.heap.size, 3, none⟩ = some (.int .u64 x.f2) ∧ V.cell? ⟨(ar.add (k * 4)).block, (ar.add (k * 4)).off + 2, none⟩ = some (.slice Ay y.f1.length cy)) (by kernel_rfl) (KEEP.out _ g5 (below_drew hB5)) (fun hS0 => ?_)
        refine wpAnyX_pure (i := 0) (oi := ⟨some 29, _, _, _, _, _⟩) (v := ?_) (by kernel_rfl) (by kernel_rfl) rfl (by kernel_rfl) (by kernel_rfl) (by kernel_rfl) (fun _ _ _ h => h) (Or.inl ⟨by rfl, ?_⟩) (by assumption) ?_
        rotate_left
        · intro w _; go_simp; (try (with_reducible rfl))
        (try simp only [Act.put, List.setIfInBounds_toArray, List.set_cons_zero, List.set_cons_succ])
        refine wpAnyX_pure (i := 1) (oi := ⟨some 30, _, _, _, _, _⟩) (v := ?_) (by kernel_rfl) (by kernel_rfl) rfl (by kernel_rfl) (by kernel_rfl) (by kernel_rfl) (fun _ _ _ h => h) (Or.inl ⟨by rfl, ?_⟩) (by assumption) ?_
        rotate_left
        · intro w _; go_simp; (try (with_reducible rfl))
        (try simp only [Act.put, List.setIfInBounds_toArray, List.set_cons_zero, List.set_cons_succ])
        refine wpAnyX_take (i := 2) (oi := ⟨some 31, _, _, _, _, _⟩) (v := ?_) (by kernel_rfl) (by kernel_rfl) (by kernel_rfl) rfl (by kernel_rfl) (by kernel_rfl) (by kernel_rfl) (by kernel_rfl) (fun _ _ _ h => h) (Or.inl ⟨by rfl, ?_⟩) (by assumption) ?_
        rotate_left
        · intro w hSw; (try dsimp only at hSw); (try go_split_ands); go_simp; (try (with_reducible rfl))
        (try simp only [Act.put, List.setIfInBounds_toArray, List.set_cons_zero, List.set_cons_succ])
        refine wpAnyX_pure (i := 3) (oi := ⟨some 32, _, _, _, _, _⟩) (v := ?_) (by kernel_rfl) (by kernel_rfl) rfl (by kernel_rfl) (by kernel_rfl) (by kernel_rfl) (fun _ _ _ h => h) (Or.inl ⟨by rfl, ?_⟩) (by assumption) ?_
        rotate_left
        · intro w _; go_simp; (try (with_reducible rfl))
        (try simp only [Act.put, List.setIfInBounds_toArray, List.set_cons_zero, List.set_cons_succ])
        refine wpAnyX_take (i := 4) (oi := ⟨some 33, _, _, _, _, _⟩) (v := ?_) (by kernel_rfl) (by kernel_rfl) (by kernel_rfl) rfl (by kernel_rfl) (by kernel_rfl) (by kernel_rfl) (by kernel_rfl) (fun _ _ _ h => h) (Or.inl ⟨by rfl, ?_⟩) (by assumption) ?_
        rotate_left
        · intro w hSw; (try dsimp only at hSw); (try go_split_ands); go_simp; (try (with_reducible rfl))
        (try simp only [Act.put, List.setIfInBounds_toArray, List.set_cons_zero, List.set_cons_succ])
        refine wpAnyX_pure (i := 5) (oi := ⟨some 34, _, _, _, _, _⟩) (v := ?_) (by kernel_rfl) (by kernel_rfl) rfl (by kernel_rfl) (by kernel_rfl) (by kernel_rfl) (fun _ _ _ h => h) (Or.inl ⟨by rfl, ?_⟩) (by assumption) ?_
        rotate_left
        · intro w _; go_simp; (try (with_reducible rfl))
        (try simp only [Act.put, List.setIfInBounds_toArray, List.set_cons_zero, List.set_cons_succ])
        refine wpAnyX_pure (i := 6) (oi := ⟨some 35, _, _, _, _, _⟩) (v := ?_) (by kernel_rfl) (by kernel_rfl) rfl (by kernel_rfl) (by kernel_rfl) (by kernel_rfl) (fun _ _ _ h => h) (Or.inl ⟨by rfl, ?_⟩) (by assumption) ?_
        rotate_left
        · intro w _; go_simp; (try (with_reducible rfl))
        (try simp only [Act.put, List.setIfInBounds_toArray, List.set_cons_zero, List.set_cons_succ])
        refine wpAnyX_pure (i := 7) (oi := ⟨some 36, _, _, _, _, _⟩) (v := ?_) (by kernel_rfl) (by kernel_rfl) rfl (by kernel_rfl) (by kernel_rfl) (by kernel_rfl) (fun _ _ _ h => h) (Or.inl ⟨by rfl, ?_⟩) (by assumption) ?_
        rotate_left
        · intro w _; go_simp; (try (with_reducible rfl))
        (try simp only [Act.put, List.setIfInBounds_toArray, List.set_cons_zero, List.set_cons_succ])
        refine wpAnyX_pure (i := 8) (oi := ⟨some 37, _, _, _, _, _⟩) (v := ?_) (by kernel_rfl) (by kernel_rfl) rfl (by kernel_rfl) (by kernel_rfl) (by kernel_rfl) (fun _ _ _ h => h) (Or.inl ⟨by rfl, ?_⟩) (by assumption) ?_
        rotate_left
        · intro w _; go_simp; (try (with_reducible rfl))
        (try simp only [Act.put, List.setIfInBounds_toArray, List.set_cons_zero, List.set_cons_succ])
        refine wpAnyX_take (i := 9) (oi := ⟨some 38, _, _, _, _, _⟩) (v := ?_) (by kernel_rfl) (by kernel_rfl) (by kernel_rfl) rfl (by kernel_rfl) (by kernel_rfl) (by kernel_rfl) (by kernel_rfl) (fun _ _ _ h => h) (Or.inl ⟨by rfl, ?_⟩) (by assumption) ?_
        rotate_left
        · intro w hSw; (try dsimp only at hSw); (try go_split_ands); go_simp; (try (with_reducible rfl))
        (try simp only [Act.put, List.setIfInBounds_toArray, List.set_cons_zero, List.set_cons_succ])
        refine wpAnyX_pure (i := 12) (oi := ⟨some 41, _, _, _, _, _⟩) (v := ?_) (by kernel_rfl) (by kernel_rfl) rfl (by kernel_rfl) (by kernel_rfl) (by kernel_rfl) (fun _ _ _ h => h) (Or.inl ⟨by rfl, ?_⟩) (by assumption) ?_
        rotate_left
        · intro w _; go_simp; (try (with_reducible rfl))
        (try simp only [Act.put, List.setIfInBounds_toArray, List.set_cons_zero, List.set_cons_succ])
        refine wpAnyX_take (i := 13) (oi := ⟨some 42, _, _, _, _, _⟩) (v := ?_) (by kernel_rfl) (by kernel_rfl) (by kernel_rfl) rfl (by kernel_rfl) (by kernel_rfl) (by kernel_rfl) (by kernel_rfl) (fun _ _ _ h => h) (Or.inl ⟨by rfl, ?_⟩) (by assumption) ?_
        rotate_left
        · intro w hSw; (try dsimp only at hSw); (try go_split_ands); go_simp; (try (with_reducible rfl))
        (try simp only [Act.put, List.setIfInBounds_toArray, List.set_cons_zero, List.set_cons_succ])
        refine wpAnyX_one (i := 10) (o := ⟨some 39, _, _, _, _, _⟩) (by kernel_rfl) (by kernel_rfl) rfl (fun K hK => ?_)
        go_simp
        obtain ⟨w6, hw6⟩ : ∃ w6, (w5.alloc (.cells #[.slice Ax x.f1.length cx, .slice Ay y.f1.length cy] 31)).drew = w6 := ⟨_, rfl⟩
        rw [hw6]
        have hb6 : Below w5.heap.size w5 w6 := by rw [← hw6]; exact below_drew (below_alloc (Below.refl _ _) _)
        have g6 : w6.heap[w5.heap.size]? = some (.cells #[.slice Ax x.f1.length cx, .slice Ay y.f1.length cy] 31 (0, 0)) := by rw [← hw6]; exact blk_new w5 _
        clear hw6
        have hB6 : Below w3.heap.size w3 w6 := hB5.trans (hb6.mono hB5.size)
        have hS6 := KEEP.out w6 (blk_below g5 hb6) hB6
        refine hK.out _ _ (.inr hS6) ?_
        clear hK K
        (try simp only [Act.put, List.setIfInBounds_toArray, List.set_cons_zero, List.set_cons_succ])
        refine wpAnyX_one (i := 11) (o := ⟨some 40, _, _, _, _, _⟩) (by kernel_rfl) (by kernel_rfl) rfl (fun K hK => ?_)
        go_simp
        refine (concat2 Ax x.f1 cx Ay y.f1 cy w5.heap.size w6 g6 (Kd.C_below hCx5 hb6) (Kd.C_below hCy hB6) (by omega)).mono ?_
        rintro e w7 ⟨v7, rfl, hR7, hb7⟩
        have hZ : x.f1.length + y.f1.length = (x.f1 ++ y.f1).length := by simp
        generalize x.f1 ++ y.f1 = Z at *
        obtain ⟨A7, c7, rfl, hle7, hC7⟩ := Kd.R_reads hR7
        have hb57 : Below w5.heap.size w5 w7 := hb6.trans (hb7.mono hb6.size)
        have hB7 : Below w3.heap.size w3 w7 := hB5.trans (hb57.mono hB5.size)
        have hS7 := KEEP.out w7 (blk_below g5 hb57) hB7
        (try dsimp only)
        refine hK.out _ _ (.inr hS7) ?_
        clear hK K
        (try simp only [Act.put, List.setIfInBounds_toArray, List.set_cons_zero, List.set_cons_succ])
        clear hS0 hS6
        refine wpAnyX_pure (i := 14) (oi := ⟨some 43, _, _, _, _, _⟩) (v := ?_) (by kernel_rfl) (by kernel_rfl) rfl (by kernel_rfl) (by kernel_rfl) (by kernel_rfl) (fun _ _ _ h => h) (Or.inl ⟨by rfl, ?_⟩) (by assumption) ?_
        rotate_left
        · intro w _; go_simp; (try (with_reducible rfl))
        (try simp only [Act.put, List.setIfInBounds_toArray, List.set_cons_zero, List.set_cons_succ])
        refine wpAnyX_one (i := 15) (o := ⟨some 44, _, _, _, _, _⟩) (by kernel_rfl) (by kernel_rfl) rfl (fun K hK => ?_)
        go_simp
        have hsa := KEEP.out _ (blk_alloc (blk_below g5 hb57) _) (below_alloc hB7 (.cells #[.int .u64 x.f0.f0, .int .u32 x.f0.f1, .slice A7 Z.length c7, .int .u64 x.f2] 85))
        refine hK.out _ _ (.inr hsa) ?_
        clear hK K
        (try simp only [Act.put, List.setIfInBounds_toArray, List.set_cons_zero, List.set_cons_succ])
        refine wpAnyX_one (i := 16) (o := ⟨some 45, _, _, _, _, _⟩) (by kernel_rfl) (by kernel_rfl) rfl (fun K hK => ?_)
        have hz1 := hB.size
        have hz2 := hb45.size
        have hz3 := hb6.size
        have hz4 := hb57.size
        refine Kd.S_append_step kVer (w0 := w3) w3.heap.size (by rfl) (.tmp 29) (.tmp 44) 55 tVer _ 48 rfl Try.underlying55 infoVer rfl (by decide) (by decide) u6 P ⟨x.f0, Z, x.f2⟩ [.int .u64 x.f0.f0, .int .u32 x.f0.f1, .slice A7 Z.length c7, .int .u64 x.f2]
          (fun _ => True) (fun k => w6.heap.size ≤ k) rfl rfl (k85_mkM _ _ _ _ (Kd.R_lower (Kd.R_mono (Kd.R_bound hR7) (fun k hk => hk.2.1)) (by omega))) ?_ (fun k hk => trivial) ?_ hB7 (by omega) (by omega) ?_
        · intro k hk
          exact ⟨trivial, fun e => by have h2 := Kd.S_lt hS k e.symm; omega⟩
        · refine Kd.S_mono (Kd.S_below (Kd.S_bound hS) (hb45.trans (hb57.mono hb45.size))) (fun k hk => ⟨trivial, fun h => ?_⟩)
          have := hk.2.2.1
          omega
        intro v2 w8 hS8 hB8 hg8 hat8
        have g8 := blk_grown (blk_below g5 hb57) hg8 (fun e => by have h2 := Kd.S_lt hS _ e.symm; omega)
        have hs8 := KEEP.out w8 g8 hB8
        refine hK.out _ _ (.inr hs8) ?_
        clear hK K
        (try simp only [Act.put, List.setIfInBounds_toArray, List.set_cons_zero, List.set_cons_succ])
        refine wpAnyX_pure (i := 17) (oi := ⟨some 6, _, _, _, _, _⟩) (v := ?_) (by kernel_rfl) (by kernel_rfl) rfl (by kernel_rfl) (by kernel_rfl) (by kernel_rfl) (fun _ _ _ h => h) (Or.inl ⟨by rfl, ?_⟩) (by assumption) ?_
        rotate_left
        · intro w _; go_simp; (try (with_reducible rfl))
        (try simp only [Act.put, List.setIfInBounds_toArray, List.set_cons_zero, List.set_cons_succ])
        refine wpAnyX_done (by kernel_rfl) ?_ _
        go_wp2
        go_roundw
        case rel =>
          refine ⟨i + 1, by omega, by go_num, ?_, hB8⟩
          rw [HSN.out, HRJ3.out]
          simpa using hS8
        case measure => simp [intOf]; omega
    · obtain rfl : i = a.length := by omega
      rw [List.take_length] at hS
      go_wp2
      go_ret
      exact ⟨_, rfl, Kd.S_lower hS hB3.size, hBw⟩
end Go.Proofs.Ytghblnldokpceaa.QV
/- How the arguments of layer 15 are opened into the print's kinds. -/
namespace Go.Proofs.Ytghblnldokpceaa.QV
open Go.RowKit Go.Proofs.YtghblnldokpceaaW.PrintWords Go.Proofs.Ytghblnldokpceaa.Op
set_option linter.unusedVariables false
theorem oS : Opens Try.prog 42 k42 (fun _ => True) (fun x => x.f3.size + 4) :=
  opens_mono (fun _ _ => trivial) (fun x => by simp only; omega)
    (opens_iso (b := fun x => ⟨x.1, x.2.1, x.2.2.1, x.2.2.2⟩) (fun _ => rfl) (opens_struct Try.underlying42 (by kernel_rfl)
      (opensF_cons rfl (by kernel_rfl) rfl (opens_int Try.underlying3) (opensF_cons rfl (by kernel_rfl) rfl (opens_bool Try.underlying4) (opensF_cons rfl (by kernel_rfl) rfl (opens_int Try.underlying2) (opensF_last rfl (by kernel_rfl) (opens_string Try.underlying9)))))))
theorem oSs : Opens Try.prog 31 (Kd.slice 42 k42) (fun xs => xs.length ≤ 9223372036854775807 ∧ xs.length * 40 ≤ 140737488351232) (fun xs => xs.length + 1) :=
  opens_mono (fun _ h => h.2) (fun xs => by have := len_le_sum (m := fun x : S42 => x.f3.size + 4) (fun _ => by omega) xs; omega) (opens_slice Try.underlying31 (by kernel_rfl) (by kernel_rfl) oS)
end Go.Proofs.Ytghblnldokpceaa.QV
/- ExecRejoins: the law. -/
namespace Go.Proofs.Ytghblnldokpceaa.QV
open Go.RowKit Go.Proofs.YtghblnldokpceaaW.PrintWords Go.Proofs.Ytghblnldokpceaa.SeqW Go.Shelf Go.Proofs.Ytghblnldokpceaa.Op Go.Proofs.Ytghblnldokpceaa.Stab
set_option linter.unusedVariables false
set_option linter.unusedSimpArgs false

theorem vers_loop (a : List Ver) (hm : a.length ≤ 9223372036854775807) (hx : ∀ x ∈ a, x.f1.length ≤ 9223372036854775807) : ∀ (d i : Nat), i + d = a.length → Ev (fun k => hayloftref02_SameVersions.l0 k a a (i : Int)) true := by
  intro d
  induction d with
  | zero =>
    intro i hi
    refine Ev.step (f := fun _ => some true) (fun k => ?_) (Ev.now _)
    simp only [hayloftref02_SameVersions.l0]
    rw [if_neg (by omega)]
  | succ d ih =>
    intro i hi
    have hw : wrap64 ((i : Int) + 1) = ((i + 1 : Nat) : Int) := by unfold wrap64; omega
    have hra : rd_T85 a (i : Int) = a.getD i zVer := rfl
    have hih := ih (i + 1) (by omega)
    have hxa := hx _ (getD_mem zVer (show i < a.length by omega))
    generalize a.getD i zVer = x at hra hxa
    have hsr := same_row x.f1 x.f1 hxa
    rw [eqRow_iff.2 rfl] at hsr
    refine Ev.step (f := fun k => (hayloftref02_SameRow.f k x.f1 x.f1).bind fun t => if t = true then hayloftref02_SameVersions.l0 k a a ((i + 1 : Nat) : Int) else some false) (fun k => ?_) ?_
    · simp only [hayloftref02_SameVersions.l0, hra, hw, hayloftref02_SameVersion.f]
      rw [if_pos (by omega), if_pos (by omega), if_pos (by omega)]
      cases hayloftref02_SameRow.f k x.f1 x.f1 with
      | none => rfl
      | some t => cases t <;> simp
    · refine hsr.bind ?_
      simp only [if_true]
      exact hih
theorem same_vers_self (a : List Ver) (hm : a.length ≤ 9223372036854775807) (hx : ∀ x ∈ a, x.f1.length ≤ 9223372036854775807) : ∃ k, hayloftref02_SameVersions.f k a a = some true := by
  have h : Ev (fun k => hayloftref02_SameVersions.f k a a) true := by
    unfold hayloftref02_SameVersions.f
    simp only [if_true]
    exact vers_loop a hm hx a.length 0 (by omega)
  exact h.rounds
set_option maxRecDepth 100000 in
set_option maxHeartbeats 4000000 in
theorem walkRejoins (A0 : Option Addr) (c0 : Nat) (a : List Ver) (A1 : Option Addr) (c1 : Nat) (b : List Ver) (w : World) (H0 : kVer.C w A0 a.length a) (C0 : a.length ≤ c0) (H1 : kVer.C w A1 b.length b) (C1 : b.length ≤ c1)
    (ha : ∀ x ∈ a, x.f1.length ≤ 1048576) (hb : ∀ x ∈ b, x.f1.length ≤ 1048576) (hna : a.length ≤ 1048576) (hnb : b.length ≤ 1048576) :
    Calls Try.prog 8 #[.slice A0 a.length c0, .slice A1 b.length c1] w fun e w' => e = .returned (.bool true) ∧ Below w.heap.size w w' := by
  obtain ⟨k0, hk0⟩ := refRejoin_f a b ha hb hna hnb
  have hlen := rejoinL_len a b
  have hrows := rejoinL_rows a b ha hb
  obtain ⟨k1, hk1⟩ := same_vers_self (rejoinL a b) (by omega) (fun x hx => by have := hrows x hx; omega)
  go_enter Try.func8, Try.ntmps8
  go_wp2_with fail
  refine (aliveX_any _).mono ?_
  rintro e w1 ⟨rfl, hb1⟩
  go_wp2_with fail
  refine (rejoin_any A0 c0 a A1 c1 b w1 (Kd.C_below H0 hb1) C0 (Kd.C_below H1 hb1) C1 ha hb hna hnb).mono ?_
  rintro e w2 ⟨v2, rfl, hS2, hb2⟩
  have hB2 := btr3 hb1 hb2
  obtain ⟨B2, m2, rfl, hle2, hC2⟩ := Kd.S_reads hS2
  go_wp2_with fail
  refine (hayloftref15_Rejoin.calls k0 A0 c0 a A1 c1 b _ w2 (Kd.C_below H0 hB2) C0 (Kd.C_below H1 hB2) C1 hk0).mono ?_
  rintro e w3 ⟨v3, rfl, hS3, hb3⟩
  have hB3 := btr3 hB2 hb3
  obtain ⟨B3, m3, rfl, hle3, hC3⟩ := Kd.S_reads hS3
  have hC23 := Kd.C_below hC2 hb3
  generalize rejoinL a b = R at *
  go_wp2_with fail
  refine (hayloftref02_SameVersions.calls k1 B2 m2 R B3 m3 R true w3 hC23 hle2 hC3 hle3 hk1).mono ?_
  rintro e w4 ⟨rfl, hd4⟩
  go_wp2
  go_ret
  exact ⟨rfl, btr3 hB3 hd4⟩
theorem oId : Opens Try.prog 83 k83 (fun _ => True) (fun _ => 1) :=
  opens_mono (fun _ h => trivial) (fun x => by simp)
    (opens_iso (b := fun x => ⟨x.1, x.2⟩) (fun _ => rfl) (opens_struct Try.underlying83 (by kernel_rfl)
      (opensF_cons rfl (by kernel_rfl) rfl (opens_int Try.underlying80) (opensF_last rfl (by kernel_rfl) (opens_int Try.underlying81)))))
theorem oVer : Opens Try.prog tVer kVer (fun x => True) (fun x => x.f1.length + 1) :=
  opens_mono (fun _ h => trivial) (fun x => by simp only; omega)
    (opens_iso (b := fun x => ⟨x.1, x.2.1, x.2.2⟩) (fun _ => rfl) (opens_struct Try.underlying85 (by kernel_rfl)
      (opensF_cons rfl (by kernel_rfl) rfl oId (opensF_cons rfl (by kernel_rfl) rfl oSs (opensF_last rfl (by kernel_rfl) (opens_int Try.underlying80))))))
theorem oVers : Opens Try.prog 55 (Kd.slice tVer kVer) (fun xs => True) (fun xs => (xs.map fun x => x.f1.length + 1).sum + 1) :=
  opens_mono (fun xs h => trivial) (fun xs => Nat.le_refl _) (opens_slice (B := 48) Try.underlying55 (by kernel_rfl) (by kernel_rfl) oVer)
theorem vers_small {xs : List Ver} {n : Nat} (h : (xs.map fun x => x.f1.length + 1).sum + 1 ≤ n) : (∀ x ∈ xs, x.f1.length ≤ n) ∧ xs.length ≤ n := by
  refine ⟨fun x hx => ?_, ?_⟩
  · have := mem_le_sum (m := fun x : Ver => x.f1.length + 1) hx
    have this : x.f1.length + 1 ≤ (xs.map fun x => x.f1.length + 1).sum := this
    omega
  · have := len_le_sum (m := fun x : Ver => x.f1.length + 1) (fun _ => by omega) xs
    omega
end Go.Proofs.Ytghblnldokpceaa.QV
