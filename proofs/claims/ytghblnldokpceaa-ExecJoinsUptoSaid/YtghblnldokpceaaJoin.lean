/- exec.Join: rows put together where two columns are equal: what its iterator gives. -/
import Derived.Test.YtghblnldokpceaaAll
import Derived.Test.YtghblnldokpceaaClone
import Derived.Test.YtghblnldokpceaaSeq2
import Derived.Test.YtghblnldokpceaaGVE
import Derived.Test.YtghblnldokpceaaQVx11
namespace Go.Proofs.Ytghblnldokpceaa.QV
open Go.RowKit Go.Proofs.YtghblnldokpceaaW.PrintWords Go.Proofs.Ytghblnldokpceaa.Seq Go.Shelf Go.Proofs.Ytghblnldokpceaa.Op
set_option linter.unusedVariables false
set_option linter.unusedSimpArgs false
attribute [local go_sem] Oper.semAt_some
abbrev V' : Type := S42
abbrev zV : V' := z42

def atS (l : Row) (n : Int) : V' := if n < 0 then ⟨0, false, 0, ⟨#[]⟩⟩ else if n ≥ (l.length : Int) then ⟨0, false, 0, ⟨#[]⟩⟩ else l.getD n.toNat zV
theorem at_f (l : Row) (n : Int) : exec_at.f l n = some ((atS l n).f0, (atS l n).f1, (atS l n).f2, (atS l n).f3) := by
  unfold exec_at.f atS value_Null.f
  by_cases h1 : n < 0
  · rw [if_pos h1, if_pos h1]; rfl
  · by_cases h2 : n ≥ (l.length : Int)
    · rw [if_neg h1, if_neg h1, if_pos h2, if_pos h2]; rfl
    · rw [if_neg h1, if_neg h1, if_neg h2, if_neg h2, if_pos (by omega), if_pos (by omega)]; rfl
/-- An iterator's value: what it gives, and how that is read. -/
def IsSeq (w : World) (sv : Value) (xs : List Row) : Prop := ∃ g lb, ∃ Rd : World → (Nat → Prop) → Row → Array Value → Prop, sv = .func (.func g) #[] lb ∧ (∀ args w, (callFunc g args).run Try.prog w = .ok (.enter g args) w) ∧ SeqOf Try.prog g lb Rd xs w ∧
  (∀ A B N x vs, Rd A N x vs → Kpt (fun i => w.heap.size ≤ i ∧ ¬ N i) A B → Rd B N x vs) ∧ (∀ A N x vs, Rd A N x vs → ∃ Ad c, vs = #[.slice Ad x.length c] ∧ x.length ≤ c ∧ kS.C A Ad x.length x)
theorem IsSeq.later {w w' : World} {sv : Value} {xs : List Row} (h : IsSeq w sv xs) (hb : Below w.heap.size w w') : IsSeq w' sv xs := by
  obtain ⟨g, lb, Rd, h1, h2, h3, h4, h5⟩ := h
  exact ⟨g, lb, Rd, h1, h2, h3.later hb, fun A B N x vs hr hk => h4 A B N x vs hr (hk.mono (fun i _ h => ⟨Nat.le_trans hb.size h.1, h.2⟩)), h5⟩
theorem RdNew.reads {w0 A : World} {N : Nat → Prop} {x : Row} {vs : Array Value} (h : RdNew w0 A N x vs) : ∃ Ad c, vs = #[.slice Ad x.length c] ∧ x.length ≤ c ∧ kS.C A Ad x.length x := by
  obtain ⟨v, rfl, hr, _⟩ := h
  obtain ⟨A1, c, rfl, hl, hC⟩ := Kd.R_reads hr
  exact ⟨A1, c, rfl, hl, hC⟩

def nzB (ro : Int) (b : Row) : Bool := (atS b ro).f0 != 0
def hitB (a : Row) (lo ro : Int) (b : Row) : Bool := decide (cmpV (toV (atS a lo)) (toV (atS b ro)) = 0)
def joinOne (lo ro : Int) (all : List Row) (a : Row) : List Row := if (atS a lo).f0 = 0 then [] else (all.filter (hitB a lo ro)).map (a ++ ·)
def joinL (left right : List Row) (lo ro : Int) : List Row := left.flatMap (joinOne lo ro (right.filter (nzB ro)))

theorem filter_snoc {α : Type} (p : α → Bool) (l : List α) (x : α) : (l ++ [x]).filter p = if p x = true then l.filter p ++ [x] else l.filter p := by
  rw [List.filter_append, List.filter_cons]
  split <;> simp

theorem joinL_snoc (pre right : List Row) (x : Row) (lo ro : Int) : joinL (pre ++ [x]) right lo ro = joinL pre right lo ro ++ joinOne lo ro (right.filter (nzB ro)) x := by
  simp [joinL]
theorem joinL_prefix {left right : List Row} {pre : List Row} {x : Row} {lo ro : Int} {l : List Row} (h : (pre ++ [x]) <+: left) (hl : l <+: joinOne lo ro (right.filter (nzB ro)) x) : (joinL pre right lo ro ++ l) <+: joinL left right lo ro := by
  obtain ⟨t, rfl⟩ := h
  obtain ⟨u, hu⟩ := hl
  have : joinL (pre ++ [x] ++ t) right lo ro = joinL (pre ++ [x]) right lo ro ++ joinL t right lo ro := by simp [joinL]
  rw [this, joinL_snoc, ← hu]
  exact ⟨u ++ joinL t right lo ro, by simp [List.append_assoc]⟩
theorem kind_of (a b c d : Value) (w : World) : Sem.run Try.prog (Instr.field 42 (.agg #[a, b, c, d]) 0) w = .ok a w := by
  kernel_rfl

set_option maxRecDepth 100000 in
set_option maxHeartbeats 4000000 in
theorem join_seq (left right : List Row) (lo ro : Int) (svL svR : Value) (b1 b2 b3 b4 : Nat) (w : World) (hL : IsSeq w svL left) (hR : IsSeq w svR right)
    (h1 : w.cell? ⟨b1, 0, none⟩ = some svR) (h2 : w.cell? ⟨b2, 0, none⟩ = some (.int .i64 ro)) (h3 : w.cell? ⟨b3, 0, none⟩ = some svL) (h4 : w.cell? ⟨b4, 0, none⟩ = some (.int .i64 lo))
    (hbR : ∀ x ∈ right, x.length ≤ 1048576) (hbL : ∀ x ∈ left, x.length ≤ 1048576) (hnR : right.length ≤ 1048576) :
    SeqOf Try.prog 31 #[.pointer (some ⟨b1, 0, none⟩), .pointer (some ⟨b2, 0, none⟩), .pointer (some ⟨b3, 0, none⟩), .pointer (some ⟨b4, 0, none⟩)] (RdNew w) (joinL left right lo ro) w := by
  intro l J Jx W Mc hW hMc hJ hJx hY h0
  have hzw : w.heap.size ≤ W.heap.size := hW.size
  obtain ⟨gR, lbR, RdR, rfl, egR, hsR, hkR, hrR⟩ := hR
  obtain ⟨gL, lbL, RdL, rfl, egL, hsL, hkL, hrL⟩ := hL
  refine (callsIn_wide (n := 0)).1 (callsIn_of_wp_marks Try.func31 rfl trivial ?_ rfl)
  simp only [Try.ntmps31, List.size_toArray, List.length_cons, List.length_nil, Nat.reduceAdd, Nat.reduceSub, Array.replicate_succ, Array.replicate_zero, List.push_toArray, List.append_toArray, List.nil_append, List.cons_append]
  gi_wp2
  have d1 : ((W.alloc (.cells #[.func (.yield l) #[] #[]] 59)).alloc (.cells #[.slice none 0 0] 22)).cell? ⟨b1, 0, none⟩ = some (.func (.func gR) #[] lbR) := pw_cell_below (hW.trans ((below_alloc (below_alloc (Below.refl _ _) _) _).mono hzw)) h1
  refine wpIn_scope ?_
  gi_wp2
  obtain ⟨W1, hW1⟩ : ∃ W1, (W.alloc (.cells #[.func (.yield l) #[] #[]] 59)).alloc (.cells #[.slice none 0 0] 22) = W1 := ⟨_, rfl⟩
  have hbW1 : Below W.heap.size W W1 := by rw [← hW1]; exact below_alloc (below_alloc (Below.refl _ _) _) _
  have hszW1 : W1.heap.size = W.heap.size + 2 := by rw [← hW1]; simp
  have hx5 : W1.heap[W.heap.size]? = some (.cells #[.func (.yield l) #[] #[]] 59 (0, 0)) := by rw [← hW1]; exact blk_alloc (blk_new _ _) _
  have hx6 : W1.heap[W.heap.size + 1]? = some (.cells #[.slice none 0 0] 22 (0, 0)) := by rw [← hW1]; have := blk_new (W.alloc (.cells #[.func (.yield l) #[] #[]] 59)) (.cells #[.slice none 0 0] 22); rwa [World.size_alloc] at this
  rw [hW1]
  refine wpIn_range (gf := gR) (lb := lbR) rfl egR hsR (hW.trans (hbW1.mono hzw)) (fun A N x vs h => by obtain ⟨Ad, c, rfl, _⟩ := hrR _ _ _ _ h; rfl) hkR
    (fun pre M A => AllI (W.heap.size + 1) W.heap.size (pre.filter (nzB ro)) M A ∧ Below W.heap.size W A ∧ ∀ i, M i → W.heap.size ≤ i) (fun _ _ _ _ => False) (fun pre M A B h hk => ⟨h.1.kept hk, h.2.1.trans (hk.below h.2.1.size (fun i _ k => by omega)), h.2.2⟩) (fun _ _ _ _ _ h _ => h)
    (fun i => i = W.heap.size + 1) ?hM1 ?h01 (fun x vs a₁ M A => ∃ v, vs = #[v] ∧ a₁ = { tmps := #[.func (.yield l) #[] #[], .pointer (some ⟨b1, 0, none⟩), .pointer (some ⟨b2, 0, none⟩), .pointer (some ⟨b3, 0, none⟩), .pointer (some ⟨b4, 0, none⟩), .pointer (some ⟨W.heap.size, 0, none⟩), .pointer (some ⟨W.heap.size + 1, 0, none⟩), v, undef, undef, undef, undef, .func (.func gR) #[] lbR, v] ++ Array.replicate 40 undef, defers := [] })
    (fun _ _ _ _ _ _ h _ => h) ?assign1 ?body1 ?done1 ?stop1
  case hM1 => intro i hi; subst hi; omega
  case h01 => exact ⟨⟨rfl, _, hx6, Kd.S_nil _ _ _ _ _⟩, hbW1, fun i hi => by omega⟩
  case stop1 =>
    intro D c pre W M' hpre h
    exact h.elim
  case assign1 =>
    intro l2 pre x vs N A M hI hpre hrd hM hN
    obtain ⟨Ad, c, rfl, hle, hC⟩ := hrR _ _ _ _ hrd
    gi_wp2
    refine ⟨M, fun i hi => ⟨.inl hi, (hM i hi).2⟩, Kpt.refl _ _, hI, _, rfl, ?_⟩
    simp only [List.size_toArray, List.length_cons, List.length_nil, Nat.reduceAdd, Nat.reduceSub, Array.replicate_succ, Array.replicate_zero, List.push_toArray, List.append_toArray, List.nil_append, List.cons_append]
  case body1 =>
    intro l2 pre x vs N A M a₁ hI hpre hrd hax hM hN
    obtain ⟨v, rfl, rfl⟩ := hax
    simp only [List.size_toArray, List.length_cons, List.length_nil, Nat.reduceAdd, Nat.reduceSub, Array.replicate_succ, Array.replicate_zero, List.push_toArray, List.append_toArray, List.nil_append, List.cons_append]
    obtain ⟨⟨hMB, vl, hbx, hS⟩, hBW, hMW⟩ := hI
    obtain ⟨Ad, c, hvv, hle, hC⟩ := hrR _ _ _ _ hrd
    obtain rfl : v = .slice Ad x.length c := by simpa using hvv
    clear hvv
    have hx1 := hbR x (hpre.subset (by simp))
    have hlen : pre.length + 1 ≤ right.length := by have := hpre.length_le; simpa using this
    have hlenF : (pre.filter (nzB ro)).length ≤ pre.length := List.length_filter_le _ _
    have d2 : A.cell? ⟨b2, 0, none⟩ = some (.int .i64 ro) := pw_cell_below (hW.trans (hBW.mono hzw)) h2
    have hzA : W.heap.size + 1 < A.heap.size := blk_lt hbx
    have ha := at_f x ro
    have hfs := filter_snoc (nzB ro) pre x
    have hnz : nzB ro x = ((atS x ro).f0 != 0) := rfl
    generalize (atS x ro).f0 = q0, (atS x ro).f1 = q1, (atS x ro).f2 = q2, (atS x ro).f3 = q3 at ha hnz
    by_cases hz : q0 = 0
    · subst hz
      gi_wp2
      refine ⟨trivial, rfl, calls_in _ _ ((exec_at.calls Ad c x ro _ _ _ _ A hC hle ha).mono ?_)⟩
      rintro e W2 ⟨rfl, hb1⟩
      gi_wp2
      simp only [kind_of]
      go_simp
      gi_wp2
      refine ⟨M, fun i hi => ⟨.inl hi, Nat.lt_of_lt_of_le (hM i hi).2 hb1.size⟩, Kpt.of_new _ hb1, ?_⟩
      show AllI _ _ ((pre ++ [x]).filter (nzB ro)) M W2 ∧ _
      rw [hfs, hnz]
      exact ⟨AllI.kept (q := fun _ => True) ⟨hMB, vl, hbx, hS⟩ (Kpt.of_new _ hb1), hBW.trans (hb1.mono (by omega)), hMW⟩
    · gi_wp2
      refine ⟨trivial, rfl, calls_in _ _ ((exec_at.calls Ad c x ro _ _ _ _ A hC hle ha).mono ?_)⟩
      rintro e W2 ⟨rfl, hb1⟩
      gi_wp2
      simp only [kind_of]
      go_simp
      gi_wp2
      have hb1A := hb1
      have hbx1 := blk_below hbx hb1A
      have c0 : W2.drew.cell? ⟨W.heap.size + 1, 0, none⟩ = some vl := blk_cell hbx1 0
      have f0 : W2.drew.frozen? ⟨W.heap.size + 1, 0, none⟩ = false := blk_frozen hbx1 0
      refine wpIn_region_R 5 (S := fun W' => W'.cell? ⟨W.heap.size + 1, 0, none⟩ = some vl ∧ W'.frozen? ⟨W.heap.size + 1, 0, none⟩ = false) (by kernel_rfl) ⟨c0, f0⟩ (fun hS0 => ?_)
      refine wpAnyR_take (i := 0) (oi := ⟨some 19, _, _, _, _, _⟩) (v := ?_) (by kernel_rfl) (by kernel_rfl) rfl (by kernel_rfl) (by kernel_rfl) (by kernel_rfl) (fun _ _ _ h => h) (Or.inl ⟨by rfl, ?_⟩) (by assumption) ?_
      rotate_left
      · intro w hSw; (try dsimp only at hSw); (try go_split_ands); go_simp; (try (with_reducible rfl))
      (try simp only [Act.put, List.setIfInBounds_toArray, List.set_cons_zero, List.set_cons_succ])
      refine wpAnyR_take (i := 1) (oi := ⟨some 20, _, _, _, _, _⟩) (v := ?_) (by kernel_rfl) (by kernel_rfl) rfl (by kernel_rfl) (by kernel_rfl) (by kernel_rfl) (fun _ _ _ h => h) (Or.inl ⟨by rfl, ?_⟩) (by assumption) ?_
      rotate_left
      · intro w hSw; (try dsimp only at hSw); (try go_split_ands); go_simp; (try (with_reducible rfl))
      (try simp only [Act.put, List.setIfInBounds_toArray, List.set_cons_zero, List.set_cons_succ])
      refine wpAnyR_one (i := 2) (o := ⟨some 21, _, _, _, _, _⟩) (by kernel_rfl) (by kernel_rfl) rfl (fun K hK => ?_)
      go_simp
      refine (clone_any Ad x c W2.drew (Kd.C_below (Kd.C_below hC hb1) (below_drew (Below.refl _ _))) hle (by omega)).mono ?_
      rintro e W3 ⟨v1, rfl, hR1, hb3⟩
      have hb3A : Below A.heap.size A W3 := hb1.trans (((below_drew (Below.refl _ W2)).trans hb3).mono hb1.size)
      have hbx3 := blk_below hbx hb3A
      (try dsimp only)
      refine hK.out _ _ (.inr ⟨blk_cell hbx3 0, blk_frozen hbx3 0⟩) ?_
      clear hK K
      (try simp only [Act.put, List.setIfInBounds_toArray, List.set_cons_zero, List.set_cons_succ])
      obtain ⟨A1, c1, rfl, hle1, hC1⟩ := Kd.R_reads hR1
      refine wpAnyR_one (i := 3) (o := ⟨some 22, _, _, _, _, _⟩) (by kernel_rfl) (by kernel_rfl) rfl (fun K hK => ?_)
      go_simp
      refine hK.out _ _ (.inr ⟨blk_cell (blk_alloc hbx3 _) 0, blk_frozen (blk_alloc hbx3 _) 0⟩) ?_
      clear hK K
      (try simp only [Act.put, List.setIfInBounds_toArray, List.set_cons_zero, List.set_cons_succ])
      refine wpAnyR_one (i := 4) (o := ⟨some 23, _, _, _, _, _⟩) (by kernel_rfl) (by kernel_rfl) rfl (fun K hK => ?_)
      have hzA3 : A.heap.size ≤ W3.heap.size := hb3A.size
      have hzA2 : A.heap.size ≤ W2.heap.size := hb1.size
      refine Kd.S_append_step kRows (w0 := A) W.heap.size (by rfl) (.tmp 19) (.tmp 22) 22 31 _ 24 rfl Try.underlying22 infoRow rfl (by decide) (by decide) vl (pre.filter (nzB ro)) x [.slice A1 x.length c1]
        (fun k => (M k ∧ k ≠ W.heap.size + 1) ∨ A.heap.size ≤ k) (fun k => (Value.slice A1 x.length c1).ownBlock = some k) rfl rfl ⟨_, rfl, RS_ok (Kd.R_lower hR1 (by show W.heap.size ≤ W2.heap.size; omega)) (fun _ h => h)⟩ ?_ (fun k hk => .inr (by omega)) ?_ (hb3A.mono (by omega)) (by omega) (by omega) ?_
      · intro k hk
        have := Kd.R_base hR1 k hk
        exact ⟨.inr (Nat.le_trans hzA2 this), fun e => by have h2 := Kd.S_lt hS k e.symm; exact absurd this (by show ¬ W2.heap.size ≤ k; omega)⟩
      · refine Kd.S_mono (Kd.S_below (Kd.S_bound hS) hb3A) (fun k hk => ⟨.inl hk.1, fun h => ?_⟩)
        have := Kd.R_base hR1 k h
        exact absurd this (by show ¬ W2.heap.size ≤ k; have := hk.2.2.1; omega)
      intro v2 W4 hS2 hB2 hg2 hat2
      have hlapp : (pre.filter (nzB ro) ++ [x]).length = (pre.filter (nzB ro)).length + 1 := by simp
      obtain ⟨g2, cap2, rfl, hg2b, hg2l, cells2, hcells2⟩ := Kd.S_form hS2 (by omega)
      rw [hlapp] at hS2
      have hbx4 := blk_grown hbx3 hg2 (Kd.S_away hS (fun k hk => hk.2))
      refine hK.out _ _ (.inr ⟨blk_cell hbx4 0, blk_frozen hbx4 0⟩) ?_
      clear hK K
      (try simp only [Act.put, List.setIfInBounds_toArray, List.set_cons_zero, List.set_cons_succ])
      have hc4 : W4.cell? ⟨W.heap.size + 1, 0, none⟩ = some vl := blk_cell hbx4 0
      have hf4 : W4.frozen? ⟨W.heap.size + 1, 0, none⟩ = false := blk_frozen hbx4 0
      refine wpAnyR_one (i := 5) (o := ⟨none, _, _, _, _, _⟩) (by kernel_rfl) (by kernel_rfl) rfl (fun K hK => ?_)
      go_simp
      refine hK.out _ _ (.inl rfl) ?_
      clear hK K
      (try simp only [Act.put, List.setIfInBounds_toArray, List.set_cons_zero, List.set_cons_succ])
      refine wpAnyR_done (by kernel_rfl) ?_ _
      gi_wp2
      have hzA4 : W3.heap.size ≤ W4.heap.size := hg2.size
      obtain ⟨W5, hW5⟩ : ∃ W5, W4.setCell ⟨W.heap.size + 1, 0, none⟩ (.slice (some ⟨g2, 0, none⟩) ((pre.filter (nzB ro)).length + 1) cap2) = W5 := ⟨_, rfl⟩
      rw [hW5]
      have hk5 : Kpt (fun i => i = W.heap.size + 1) W4 W5 := by rw [← hW5]; exact Kpt.setCell W4 ⟨W.heap.size + 1, 0, none⟩ _
      have hbx5 : W5.heap[W.heap.size + 1]? = some (.cells #[.slice (some ⟨g2, 0, none⟩) ((pre.filter (nzB ro)).length + 1) cap2] 22 (0, 0)) := by rw [← hW5]; exact blk_set hbx4 0 _
      have hS5 : Kd.S kRows tRow W5 W.heap.size (fun k => ((M k ∧ k ≠ W.heap.size + 1) ∨ A.heap.size ≤ k) ∧ k < W5.heap.size) (.slice (some ⟨g2, 0, none⟩) ((pre.filter (nzB ro)).length + 1) cap2) (pre.filter (nzB ro) ++ [x]) := by
        have h3 : Kd.S kRows tRow W5 W.heap.size (fun k => (M k ∧ k ≠ W.heap.size + 1) ∨ A.heap.size ≤ k) (.slice (some ⟨g2, 0, none⟩) ((pre.filter (nzB ro)).length + 1) cap2) (pre.filter (nzB ro) ++ [x]) := by
          rw [← hW5]
          exact Kd.S_far (p := ⟨W.heap.size + 1, 0, none⟩) hS2 (fun k hk => by rcases hk with hk | hk; exact hk.2; show k ≠ W.heap.size + 1; omega) _
        exact Kd.S_mono (Kd.S_bound h3) (fun k hk => ⟨hk.1, hk.2.2.1⟩)
      have hKA5 : Kpt M A W5 := by
        refine ((Kpt.of_new M hb3A).trans (Kpt.grown hg2) (M := M) (fun i hi h => ?_)).trans hk5 (fun i hi h => ?_)
        · rcases h with h | h
          · exact h
          · exact ((Kd.S_R hS).1 i h.symm).1
        · rcases h with h | h
          · exact h
          · rw [h]; exact hMB
      have hz5 := hKA5.size
      refine ⟨fun i => (M i ∨ A.heap.size ≤ i) ∧ i < W5.heap.size, fun i hi => ⟨by rcases hi.1 with h | h; exact .inl h; exact .inr (.inr h), hi.2⟩, hKA5.mono (fun _ _ h => .inl h), ?_⟩
      show AllI _ _ ((pre ++ [x]).filter (nzB ro)) _ W5 ∧ _
      rw [hfs, hnz, if_pos (by simpa using hz)]
      refine ⟨⟨⟨.inl hMB, by omega⟩, _, hbx5, ?_⟩, ?_⟩
      · refine Kd.S_mono hS5 (fun k hk' => ?_)
        have hlt' := hk'.2
        rcases hk'.1 with h | h
        · exact ⟨⟨.inl h.1, by omega⟩, h.2⟩
        · exact ⟨⟨.inr h, by omega⟩, by omega⟩
      · refine ⟨hBW.trans (hKA5.below hBW.size (fun i _ h => hMW i h)), fun i hi => ?_⟩
        rcases hi.1 with h | h
        · exact hMW i h
        · omega
  case done1 =>
    intro D W2 M' hI hk hM' hD hDw hDM
    obtain ⟨⟨hMB, vl, hbx, hS⟩, hBW, hMW⟩ := hI
    have hbwW2 : Below w.heap.size w W2 := hW.trans (hBW.mono hzw)
    have d3 : W2.cell? ⟨b3, 0, none⟩ = some (.func (.func gL) #[] lbL) := pw_cell_below hbwW2 h3
    have hzW2 : W.heap.size ≤ W2.heap.size := hBW.size
    have hKc : Kpt Mc W W2 := (Kpt.of_new _ hBW)
    gi_wp2
    refine wpIn_label ?_
    gi_wp2
    refine wpIn_range (gf := gL) (lb := lbL) rfl egL hsL hbwW2 (fun A N x vs h => by obtain ⟨Ad, c, rfl, _⟩ := hrL _ _ _ _ h; rfl) hkL
      (fun pre => J2 J Mc W W2 (joinL pre right lo ro)) (fun c pre Mh A => c = .exit 2 ∧ ∃ y, y <+: joinL left right lo ro ∧ J2 Jx Mc W W2 y Mh A) (fun pre M A B h hk => h.kept hJ hzW2 hk) (fun c pre M A B h hk => by obtain ⟨e, y, hy, h⟩ := h; exact ⟨e, y, hy, h.kept hJx hzW2 hk⟩)
      (fun i => Mc i ∨ (W.heap.size ≤ i ∧ i < W2.heap.size)) ?hM2 ?h02 (fun x vs a₁ M A => ∃ v, vs = #[v] ∧ a₁ = { tmps := #[.func (.yield l) #[] #[], .pointer (some ⟨b1, 0, none⟩), .pointer (some ⟨b2, 0, none⟩), .pointer (some ⟨b3, 0, none⟩), .pointer (some ⟨b4, 0, none⟩), .pointer (some ⟨W.heap.size, 0, none⟩), .pointer (some ⟨W.heap.size + 1, 0, none⟩), undef, v, undef, undef, undef, .func (.func gR) #[] lbR, undef, undef, undef, undef, undef, undef, undef, undef, undef, undef, undef, .func (.func gL) #[] lbL, v] ++ Array.replicate 28 undef, defers := [] })
      (fun _ _ _ _ _ _ h _ => h) ?assign2 ?body2 ?done2 ?stop2
    case hM2 => intro i hi; rcases hi with h | h; have := hMc i h; omega; omega
    case h02 => exact ⟨Mc, hJ _ _ _ _ h0 (Kpt.of_new _ hBW), fun i => Iff.rfl, fun i hi => ⟨.inl hi, by have := hMc i hi; omega⟩, Kpt.refl _ _⟩
    case assign2 =>
      intro l2 pre x vs N A M hI hpre hrd hM hN
      obtain ⟨Ad, c, rfl, hle, hC⟩ := hrL _ _ _ _ hrd
      gi_wp2
      refine ⟨M, fun i hi => ⟨.inl hi, (hM i hi).2⟩, Kpt.refl _ _, hI, _, rfl, ?_⟩
      simp only [List.size_toArray, List.length_cons, List.length_nil, Nat.reduceAdd, Nat.reduceSub, Array.replicate_succ, Array.replicate_zero, List.push_toArray, List.append_toArray, List.nil_append, List.cons_append]
    case body2 =>
      intro l2 pre x vs N A Mh a₁ hI hpre hrd hax hM hN
      obtain ⟨v, rfl, rfl⟩ := hax
      simp only [List.size_toArray, List.length_cons, List.length_nil, Nat.reduceAdd, Nat.reduceSub, Array.replicate_succ, Array.replicate_zero, List.push_toArray, List.append_toArray, List.nil_append, List.cons_append]
      obtain ⟨Mj, hJ0, hMh, hMj, hKA⟩ := hI
      obtain ⟨Ad, c, hvv, hle, hC⟩ := hrL _ _ _ _ hrd
      obtain rfl : v = .slice Ad x.length c := by simpa using hvv
      clear hvv
      have hx1 := hbL x (hpre.subset (by simp))
      have hbA : Below w.heap.size w A := hbwW2.trans (hKA.below hbwW2.size (fun i _ h => (hMc i h).1))
      have d4 : A.cell? ⟨b4, 0, none⟩ = some (.int .i64 lo) := pw_cell_below hbA h4
      have hsn := joinL_snoc pre right x lo ro
      have hjp := fun l => joinL_prefix (left := left) (right := right) (lo := lo) (ro := ro) (l := l) hpre
      generalize hF : right.filter (nzB ro) = F at *
      have ha := at_f x lo
      obtain ⟨va, hva⟩ : ∃ va, atS x lo = va := ⟨_, rfl⟩
      have hjo : joinOne lo ro F x = if va.f0 = 0 then [] else (F.filter (hitB x lo ro)).map (x ++ ·) := by rw [joinOne, hva]
      have hhit : ∀ b, hitB x lo ro b = decide (cmpV (toV va) (toV (atS b ro)) = 0) := fun b => by rw [hitB, hva]
      rw [hva] at ha
      clear hva
      obtain ⟨q0, q1, q2, q3⟩ := va
      simp only at ha hjo
      by_cases hz : q0 = 0
      · subst hz
        gi_wp2
        refine ⟨trivial, rfl, calls_in _ _ ((exec_at.calls Ad c x lo _ _ _ _ A hC hle ha).mono ?_)⟩
        rintro e W4 ⟨rfl, hb4⟩
        gi_wp2
        obtain ⟨W5, hW5⟩ : ∃ W5, W4.alloc (.cells #[.int .i64 0, .bool q1, .int .i64 q2, .string q3] 42) = W5 := ⟨_, rfl⟩
        rw [hW5]
        have hb5 : Below A.heap.size A W5 := by rw [← hW5]; exact below_alloc hb4 _
        have hj2 : J2 J Mc W W2 (joinL pre right lo ro) Mh W5 := J2.kept hJ hzW2 ⟨Mj, hJ0, hMh, hMj, hKA⟩ (Kpt.of_new _ hb5)
        refine ⟨Mh, fun i hi => ⟨.inl hi, Nat.lt_of_lt_of_le (hM i hi).2 hb5.size⟩, Kpt.of_new _ hb5, ?_⟩
        show J2 J Mc W W2 (joinL (pre ++ [x]) right lo ro) Mh W5
        rw [hsn, hjo, if_pos trivial, List.append_nil]
        exact hj2
      · obtain ⟨Ag, cg, rfl⟩ := Kd.S_slice hS
        gi_wp2
        refine ⟨trivial, rfl, calls_in _ _ ((exec_at.calls Ad c x lo _ _ _ _ A hC hle ha).mono ?_)⟩
        rintro e W4 ⟨rfl, hb4⟩
        have hbxA : A.heap[W.heap.size + 1]? = some (.cells #[.slice Ag F.length cg] 22 (0, 0)) := hKA.at hbx (fun h => by have := (hMc _ h).2; omega)
        have d6 : (W4.alloc (.cells #[.int .i64 q0, .bool q1, .int .i64 q2, .string q3] 42)).cell? ⟨W.heap.size + 1, 0, none⟩ = some (.slice Ag F.length cg) := blk_cell (blk_alloc (blk_below hbxA hb4) _) 0
        gi_wp2
        obtain ⟨W5, hW5⟩ : ∃ W5, W4.alloc (.cells #[.int .i64 q0, .bool q1, .int .i64 q2, .string q3] 42) = W5 := ⟨_, rfl⟩
        rw [hW5]
        have hb5 : Below A.heap.size A W5 := by rw [← hW5]; exact below_alloc hb4 _
        have hx9 : W5.heap[W4.heap.size]? = some (.cells #[.int .i64 q0, .bool q1, .int .i64 q2, .string q3] 42 (0, 0)) := by rw [← hW5]; exact blk_new _ _
        have hsz5 : W5.heap.size = W4.heap.size + 1 := by rw [← hW5]; simp
        have hz4 : A.heap.size ≤ W4.heap.size := hb4.size
        have hzA : W2.heap.size ≤ A.heap.size := hKA.size
        have hj5 : J (joinL pre right lo ro) Mj W5 := hJ _ _ _ _ hJ0 (Kpt.of_new _ hb5)
        have hKW5 : Kpt Mc W2 W5 := hKA.trans (Kpt.of_new Mc hb5) (fun _ _ h => h.elim id id)
        have hjn : joinOne lo ro F x = (F.filter (hitB x lo ro)).map (x ++ ·) := by rw [hjo, if_neg hz]
        have hMcW : ∀ i, Mc i → i < W.heap.size := fun i h => (hMc i h).2
        have hx5' : W5.heap[W.heap.size]? = some (.cells #[.func (.yield l) #[] #[]] 59 (0, 0)) := hKW5.at (hk.at hx5 (by omega)) (fun h => by have := hMcW _ h; omega)
        have hzW : W.heap.size < W2.heap.size := by have := hk.size; omega
        clear hW5 d6 hjo
        have hmF : ∀ b ∈ F, b.length ≤ 1048576 := by rw [← hF]; intro b hb; exact hbR b (List.mem_filter.1 hb).1
        have fin : ∀ (JJ : List Row → (Nat → Prop) → World → Prop) (y : List Row) (Mk : Nat → Prop) (B : World), JJ y Mk B → (∀ i, Mk i → (Mj i ∨ W5.heap.size ≤ i) ∧ i < B.heap.size) → Kpt Mj W5 B →
            ∃ M', (∀ i, M' i → (Mh i ∨ N i ∨ A.heap.size ≤ i) ∧ i < B.heap.size) ∧ Kpt (fun i => Mh i ∨ N i) A B ∧ J2 JJ Mc W W2 y M' B := by
          intro JJ y Mk B hJy hMk hkB
          have hsB := hkB.size
          refine ⟨fun i => Mk i ∨ (W.heap.size ≤ i ∧ i < W2.heap.size), fun i hi => ?_, (Kpt.of_new (fun i => Mh i ∨ N i) hb5).trans hkB (fun i _ h => ?_), Mk, hJy, fun i => Iff.rfl, fun i hi => ⟨?_, (hMk i hi).2⟩, hKW5.trans hkB (fun i hi h => ?_)⟩
          · rcases hi with h | h
            · refine ⟨?_, (hMk i h).2⟩
              rcases (hMk i h).1 with z | z
              · exact .inl ((hMh i).2 (.inl z))
              · exact .inr (.inr (by omega))
            · exact ⟨.inl ((hMh i).2 (.inr h)), by omega⟩
          · rcases h with h | h
            · exact h
            · exact .inl ((hMh i).2 (.inl h))
          · rcases (hMk i hi).1 with z | z
            · exact (hMj i z).1
            · exact .inr (by omega)
          · rcases h with h | h
            · exact h
            · rcases (hMj i h).1 with z | z
              · exact z
              · omega
        have hq0 : (q0 == 0) = false := by simpa using hz
        simp only [hq0]
        gi_loopw [34] (fun i wr => ∃ k : Nat, k ≤ F.length ∧ i = .int .i64 k ∧ ∃ Mk, J (joinL pre right lo ro ++ ((F.take k).filter (hitB x lo ro)).map (x ++ ·)) Mk wr ∧ (∀ i, Mk i → (Mj i ∨ W5.heap.size ≤ i) ∧ i < wr.heap.size) ∧ Kpt Mj W5 wr)
          (fun i _ => F.length - (intOf i).toNat)
        case atStart => exact ⟨0, Nat.zero_le _, rfl, Mj, by simpa using hj5, fun i hi => ⟨.inl hi, by have := (hMj i hi).2; omega⟩, Kpt.refl _ _⟩
        case round =>
          obtain ⟨k, hk', rfl, Mk, hJk, hMk, hkp⟩ := hrel
          by_cases hlt : k < F.length
          · have hKr : Kpt Mc W2 wr := hKW5.trans hkp (fun i hi h => by
              rcases h with h | h
              · exact h
              · rcases (hMj i h).1 with z | z
                · exact z
                · omega)
            have hSr : Kd.S kRows tRow wr W.heap.size (fun k => M' k ∧ k ≠ W.heap.size + 1) (.slice Ag F.length cg) F := Kd.S_step hS (fun k hk2 hlt2 => hKr.block k hlt2 (fun h => by have := hMcW _ h; have := hMW _ hk2.1; omega))
            have hr := (Kd.S_reads' hSr).2.2
            have hmax := hr.2.1
            obtain ⟨ad, cs, rfl, _, hK, hcs⟩ := Kd.C_get hr [] k (by omega) (by omega)
            obtain ⟨Ao, co, rfl, hleo, hCo⟩ := hK
            have hx : F.getD (k : Int).toNat [] = F.getD k [] := rfl
            rw [hx] at hleo hCo hcs
            have hc0 := hcs 0 _ rfl
            have hsz : kRows.sz = 1 := rfl
            rw [hsz, Int.toNat_natCast, Nat.mul_one, Nat.add_zero] at hc0
            have hts := take_snoc' ([] : Row) F k hlt
            have hob1 : (F.getD k []).length ≤ 1048576 := hmF _ (by rw [List.getD_eq_getElem?_getD, List.getElem?_eq_getElem hlt]; exact List.getElem_mem hlt)
            generalize F.getD k [] = ob at *
            have hbr : Below w.heap.size w wr := hbwW2.trans (hKr.below hbwW2.size (fun i _ h => (hMc i h).1))
            have d2 : wr.cell? ⟨b2, 0, none⟩ = some (.int .i64 ro) := pw_cell_below hbr h2
            have hMk9 : ∀ i, Mk i → i ≠ W4.heap.size ∧ i ≠ W.heap.size := fun i h => by
              rcases (hMk i h).1 with z | z
              · have h1 := (hMj i z).2
                rcases (hMj i z).1 with z | z
                · have := hMcW _ z; omega
                · omega
              · omega
            have h9 := hkp.at hx9 (fun h => by have := (hMj _ h).2; omega)
            have h5 := hkp.at hx5' (fun h => by rcases (hMj _ h).1 with z | z; have := hMcW _ z; omega; omega)
            have hCx : kS.C wr Ad x.length x := by
              have hk3 : Kpt (fun i => w.heap.size ≤ i ∧ ¬ N i) A wr := (Kpt.of_new _ hb5).trans hkp (fun i hi h => by
                rcases h with h | h
                · exact h
                · refine ⟨?_, fun z => (hN i z).2.2 ((hMh i).2 (.inl h))⟩
                  rcases (hMj i h).1 with z | z
                  · exact (hMc i z).1
                  · omega)
              obtain ⟨Ad', c', e, _, h⟩ := hrL _ _ _ _ (hkL _ _ _ _ _ hrd hk3)
              have e2 : Value.slice Ad x.length c = .slice Ad' x.length c' := by simpa using e
              injection e2 with e2 _ _
              rw [e2]; exact h
            have hb := at_f ob ro
            have hh0 : hitB x lo ro ob = true ↔ cmpV ⟨q0, q1, q2, q3⟩ (toV (atS ob ro)) = 0 := by rw [hhit ob]; exact decide_eq_true_iff
            generalize atS ob ro = vb at hb hh0
            obtain ⟨p0, p1, p2, p3⟩ := vb
            have hh : hitB x lo ro ob = true ↔ cmpV ⟨q0, q1, q2, q3⟩ ⟨p0, p1, p2, p3⟩ = 0 := hh0
            simp only at hb
            clear hh0
            obtain ⟨z, hcv⟩ : ∃ z, cmpV ⟨q0, q1, q2, q3⟩ ⟨p0, p1, p2, p3⟩ = z := ⟨_, rfl⟩
            rw [hcv] at hh
            have e0 : wr.drew.cell? ⟨W4.heap.size, 0, none⟩ = some (.int .i64 q0) := blk_cell h9 0
            have e1 : wr.drew.cell? ⟨W4.heap.size, 1, none⟩ = some (.bool q1) := blk_cell h9 1
            have e2 : wr.drew.cell? ⟨W4.heap.size, 2, none⟩ = some (.int .i64 q2) := blk_cell h9 2
            have e3 : wr.drew.cell? ⟨W4.heap.size, 3, none⟩ = some (.string q3) := blk_cell h9 3
            have e5 : wr.drew.cell? ⟨W.heap.size, 0, none⟩ = some (.func (.yield l) #[] #[]) := blk_cell h5 0
            have keep : ∀ V, Kpt (fun i => wr.heap.size ≤ i) wr V → V.cell? ⟨W4.heap.size, 0, none⟩ = some (.int .i64 q0) ∧ V.cell? ⟨W4.heap.size, 1, none⟩ = some (.bool q1) ∧ V.cell? ⟨W4.heap.size, 2, none⟩ = some (.int .i64 q2) ∧ V.cell? ⟨W4.heap.size, 3, none⟩ = some (.string q3) ∧ V.cell? ⟨W.heap.size, 0, none⟩ = some (.func (.yield l) #[] #[]) ∧ V.cell? ⟨b2, 0, none⟩ = some (.int .i64 ro) := by
              intro V hV
              have g9 := hV.at h9 (by have := blk_lt h9; omega)
              have g5 := hV.at h5 (by have := blk_lt h5; omega)
              have hVr : Below wr.heap.size wr V := hV.below (Nat.le_refl _) (fun _ _ h => h)
              exact ⟨blk_cell g9 0, blk_cell g9 1, blk_cell g9 2, blk_cell g9 3, blk_cell g5 0, pw_cell_below (hbr.trans (hVr.mono hbr.size)) h2⟩
            by_cases hcmp : z = 0
            · subst hcmp
              gi_wp2
              refine wpIn_region_R 15 (S := fun V => V.cell? ⟨W4.heap.size, 0, none⟩ = some (.int .i64 q0) ∧ V.cell? ⟨W4.heap.size, 1, none⟩ = some (.bool q1) ∧ V.cell? ⟨W4.heap.size, 2, none⟩ = some (.int .i64 q2) ∧ V.cell? ⟨W4.heap.size, 3, none⟩ = some (.string q3) ∧ V.cell? ⟨W.heap.size, 0, none⟩ = some (.func (.yield l) #[] #[]) ∧ V.cell? ⟨b2, 0, none⟩ = some (.int .i64 ro)) (by kernel_rfl) ⟨e0, e1, e2, e3, e5, d2⟩ (fun hS0 => ?_)
              refine wpAnyR_take (i := 0) (oi := ⟨some 38, _, _, _, _, _⟩) (v := ?_) (by kernel_rfl) (by kernel_rfl) rfl (by kernel_rfl) (by kernel_rfl) (by kernel_rfl) (fun _ _ _ h => h) (Or.inl ⟨by rfl, ?_⟩) (by assumption) ?_
              rotate_left
              · intro w hSw; (try dsimp only at hSw); (try go_split_ands); go_simp; (try (with_reducible rfl))
              (try simp only [Act.put, List.setIfInBounds_toArray, List.set_cons_zero, List.set_cons_succ])
              refine wpAnyR_take (i := 1) (oi := ⟨some 39, _, _, _, _, _⟩) (v := ?_) (by kernel_rfl) (by kernel_rfl) rfl (by kernel_rfl) (by kernel_rfl) (by kernel_rfl) (fun _ _ _ h => h) (Or.inl ⟨by rfl, ?_⟩) (by assumption) ?_
              rotate_left
              · intro w hSw; (try dsimp only at hSw); (try go_split_ands); go_simp; (try (with_reducible rfl))
              (try simp only [Act.put, List.setIfInBounds_toArray, List.set_cons_zero, List.set_cons_succ])
              refine wpAnyR_take (i := 2) (oi := ⟨some 40, _, _, _, _, _⟩) (v := ?_) (by kernel_rfl) (by kernel_rfl) rfl (by kernel_rfl) (by kernel_rfl) (by kernel_rfl) (fun _ _ _ h => h) (Or.inl ⟨by rfl, ?_⟩) (by assumption) ?_
              rotate_left
              · intro w hSw; (try dsimp only at hSw); (try go_split_ands); go_simp; (try (with_reducible rfl))
              (try simp only [Act.put, List.setIfInBounds_toArray, List.set_cons_zero, List.set_cons_succ])
              refine wpAnyR_one (i := 3) (o := ⟨some 41, _, _, _, _, _⟩) (by kernel_rfl) (by kernel_rfl) rfl (fun K hK => ?_)
              go_simp
              refine (exec_at.calls Ao co ob ro _ _ _ _ wr.drew (Kd.C_drew hCo) hleo hb).mono ?_
              rintro e W6 ⟨rfl, hb6⟩
              have hb6' : Below wr.heap.size wr W6 := (below_drew (Below.refl _ wr)).trans hb6
              have hS6 := keep W6 (Kpt.of_below hb6')
              (try dsimp only)
              refine hK.out _ _ (.inr hS6) ?_
              clear hK K
              (try simp only [Act.put, List.setIfInBounds_toArray, List.set_cons_zero, List.set_cons_succ])
              refine wpAnyR_one (i := 4) (o := ⟨some 42, _, _, _, _, _⟩) (by kernel_rfl) (by kernel_rfl) rfl (fun K hK => ?_)
              go_simp
              refine (value_Compare.calls q0 q1 q2 q3 p0 p1 p2 p3 _ W6 (by rw [value_Compare.f, hcv])).mono ?_
              rintro e W7 ⟨rfl, hb7⟩
              have hb7' : Below wr.heap.size wr W7 := hb6'.trans (hb7.mono hb6'.size)
              have hS7 := keep W7 (Kpt.of_below hb7')
              (try dsimp only)
              refine hK.out _ _ (.inr hS7) ?_
              clear hK K
              (try simp only [Act.put, List.setIfInBounds_toArray, List.set_cons_zero, List.set_cons_succ])
              refine wpAnyR_take (i := 5) (oi := ⟨some 43, _, _, _, _, _⟩) (v := ?_) (by kernel_rfl) (by kernel_rfl) rfl (by kernel_rfl) (by kernel_rfl) (by kernel_rfl) (fun _ _ _ h => h) (Or.inl ⟨by rfl, ?_⟩) (by assumption) ?_
              rotate_left
              · intro w hSw; (try dsimp only at hSw); (try go_split_ands); go_simp; (try (with_reducible rfl))
              (try simp only [Act.put, List.setIfInBounds_toArray, List.set_cons_zero, List.set_cons_succ])
              refine wpAnyR_take (i := 6) (oi := ⟨some 44, _, _, _, _, _⟩) (v := ?_) (by kernel_rfl) (by kernel_rfl) rfl (by kernel_rfl) (by kernel_rfl) (by kernel_rfl) (fun _ _ _ h => h) (Or.inl ⟨by rfl, ?_⟩) (by assumption) ?_
              rotate_left
              · intro w hSw; (try dsimp only at hSw); (try go_split_ands); go_simp; (try (with_reducible rfl))
              (try simp only [Act.put, List.setIfInBounds_toArray, List.set_cons_zero, List.set_cons_succ])
              refine wpAnyR_take (i := 7) (oi := ⟨some 45, _, _, _, _, _⟩) (v := ?_) (by kernel_rfl) (by kernel_rfl) rfl (by kernel_rfl) (by kernel_rfl) (by kernel_rfl) (fun _ _ _ h => h) (Or.inl ⟨by rfl, ?_⟩) (by assumption) ?_
              rotate_left
              · intro w hSw; (try dsimp only at hSw); (try go_split_ands); go_simp; (try (with_reducible rfl))
              (try simp only [Act.put, List.setIfInBounds_toArray, List.set_cons_zero, List.set_cons_succ])
              refine wpAnyR_take (i := 8) (oi := ⟨some 46, _, _, _, _, _⟩) (v := ?_) (by kernel_rfl) (by kernel_rfl) rfl (by kernel_rfl) (by kernel_rfl) (by kernel_rfl) (fun _ _ _ h => h) (Or.inl ⟨by rfl, ?_⟩) (by assumption) ?_
              rotate_left
              · intro w hSw; (try dsimp only at hSw); (try go_split_ands); go_simp; (try (with_reducible rfl))
              (try simp only [Act.put, List.setIfInBounds_toArray, List.set_cons_zero, List.set_cons_succ])
              refine wpAnyR_take (i := 9) (oi := ⟨some 47, _, _, _, _, _⟩) (v := ?_) (by kernel_rfl) (by kernel_rfl) rfl (by kernel_rfl) (by kernel_rfl) (by kernel_rfl) (fun _ _ _ h => h) (Or.inl ⟨by rfl, ?_⟩) (by assumption) ?_
              rotate_left
              · intro w hSw; (try dsimp only at hSw); (try go_split_ands); go_simp; (try (with_reducible rfl))
              (try simp only [Act.put, List.setIfInBounds_toArray, List.set_cons_zero, List.set_cons_succ])
              refine wpAnyR_one (i := 10) (o := ⟨some 48, _, _, _, _, _⟩) (by kernel_rfl) (by kernel_rfl) rfl (fun K hK => ?_)
              go_simp
              obtain ⟨W8, hW8⟩ : ∃ W8, W7.alloc (.cells #[.slice Ad x.length c, .slice Ao ob.length co] 31) = W8 := ⟨_, rfl⟩
              rw [hW8]
              have hb8 : Below wr.heap.size wr W8 := by rw [← hW8]; exact below_alloc hb7' _
              have hx8 : W8.heap[W7.heap.size]? = some (.cells #[.slice Ad x.length c, .slice Ao ob.length co] 31 (0, 0)) := by rw [← hW8]; exact blk_new _ _
              clear hW8
              refine hK.out _ _ (.inr (keep W8 (Kpt.of_below hb8))) ?_
              clear hK K
              (try simp only [Act.put, List.setIfInBounds_toArray, List.set_cons_zero, List.set_cons_succ])
              refine wpAnyR_one (i := 11) (o := ⟨some 49, _, _, _, _, _⟩) (by kernel_rfl) (by kernel_rfl) rfl (fun K hK => ?_)
              go_simp
              refine (concat2 Ad x c Ao ob co W7.heap.size W8 hx8 (Kd.C_below hCx hb8) (Kd.C_below hCo hb8) (by omega)).mono ?_
              rintro e W10 ⟨v10, rfl, hR10, hb10⟩
              have hb10' : Below wr.heap.size wr W10 := hb8.trans (hb10.mono hb8.size)
              refine hK.out _ _ (.inr (keep W10 (Kpt.of_below hb10'))) ?_
              clear hK K
              (try simp only [Act.put, List.setIfInBounds_toArray, List.set_cons_zero, List.set_cons_succ])
              have hz10 : wr.heap.size ≤ W8.heap.size := hb8.size
              have hzwr : W5.heap.size ≤ wr.heap.size := hkp.size
              have hrd10 : RdNew w W10 (fun i => W8.heap.size ≤ i ∧ i < W10.heap.size) (x ++ ob) #[v10] :=
                ⟨v10, rfl, Kd.R_lower (Kd.R_mono (Kd.R_bound hR10) (fun i hi => ⟨hi.2.1, hi.2.2.1⟩)) (Nat.le_trans hbr.size hz10), fun i hi => hi.2⟩
              have hhit1 : hitB x lo ro ob = true := by simpa using hh
              have hpe : joinL pre right lo ro ++ ((F.take k).filter (hitB x lo ro)).map (x ++ ·) ++ [x ++ ob] = joinL pre right lo ro ++ ((F.take (k + 1)).filter (hitB x lo ro)).map (x ++ ·) := by
                rw [← hts, filter_snoc, if_pos hhit1, List.map_append, List.append_assoc]; rfl
              have hpp : joinL pre right lo ro ++ ((F.take (k + 1)).filter (hitB x lo ro)).map (x ++ ·) <+: joinL left right lo ro :=
                hjp _ (by rw [hjn]; exact ((List.take_prefix _ _).filter _).map _)
              obtain ⟨fn, tmps, assign, body, hy, hR⟩ := hY _ (x ++ ob) #[v10] (fun i => W8.heap.size ≤ i ∧ i < W10.heap.size) W10 Mk (hJ _ _ _ _ hJk (Kpt.of_new _ hb10')) (by rw [hpe]; exact hpp) hrd10
                (fun i hi => ⟨by rcases (hMk i hi).1 with h | h; rcases (hMj i h).1 with h | h; exact (hMc i h).1; omega; omega, Nat.lt_of_lt_of_le (hMk i hi).2 hb10'.size⟩)
                (fun i hi => ⟨by omega, hi.2, fun h => by have := (hMk i h).2; omega⟩) (by have := hb10'.size; omega)
              rw [hpe] at hR
              refine wpAnyR_oneIn (i := 12) (o := ⟨some 50, _, _, _, _, _⟩) (by kernel_rfl) rfl (fun K hK => ?_)
              rw [if_pos (by rfl)]
              refine ⟨fun _ _ => trivial, ?_⟩
              go_simp
              refine ⟨rfl, round_in _ (hR.mono ?_)⟩
              have hsz10 : W8.heap.size ≤ W10.heap.size := hb10.size
              have keepY : ∀ (M9 : Nat → Prop) (V : World), Kpt (fun i => Mk i ∨ (W8.heap.size ≤ i ∧ i < W10.heap.size)) W10 V → (∀ i, M9 i → (Mk i ∨ (W8.heap.size ≤ i ∧ i < W10.heap.size) ∨ W10.heap.size ≤ i) ∧ i < V.heap.size) →
                  (V.cell? ⟨W4.heap.size, 0, none⟩ = some (.int .i64 q0) ∧ V.cell? ⟨W4.heap.size, 1, none⟩ = some (.bool q1) ∧ V.cell? ⟨W4.heap.size, 2, none⟩ = some (.int .i64 q2) ∧ V.cell? ⟨W4.heap.size, 3, none⟩ = some (.string q3) ∧ V.cell? ⟨W.heap.size, 0, none⟩ = some (.func (.yield l) #[] #[]) ∧ V.cell? ⟨b2, 0, none⟩ = some (.int .i64 ro)) ∧
                  (∀ i, M9 i → (Mj i ∨ W5.heap.size ≤ i) ∧ i < V.heap.size) ∧ Kpt Mj W5 V := by
                intro M9 V hV hM9
                have hl9 := blk_lt h9
                have hl5 := blk_lt h5
                have hVr : Kpt Mk wr V := (Kpt.of_new Mk hb10').trans hV (fun i hi h => by
                  rcases h with h | h | h
                  · exact h
                  · exact h
                  · omega)
                have g9 := hVr.at h9 (fun h => (hMk9 _ h).1 rfl)
                have g5 := hVr.at h5 (fun h => (hMk9 _ h).2 rfl)
                have hVw : Below w.heap.size wr V := hVr.below hbr.size (fun i hi h => by
                  rcases (hMk i h).1 with z | z
                  · rcases (hMj i z).1 with z | z
                    · exact (hMc i z).1
                    · omega
                  · omega)
                refine ⟨⟨blk_cell g9 0, blk_cell g9 1, blk_cell g9 2, blk_cell g9 3, blk_cell g5 0, pw_cell_below (hbr.trans hVw) h2⟩, fun i hi => ⟨?_, (hM9 i hi).2⟩, hkp.trans hVr (fun i hi h => ?_)⟩
                · rcases (hM9 i hi).1 with h | h | h
                  · exact (hMk i h).1
                  · exact .inr (by omega)
                  · exact .inr (by omega)
                · rcases h with h | h
                  · exact h
                  · rcases (hMk i h).1 with z | z
                    · exact z
                    · omega
              rintro e W11 ⟨M9, hM9, hk9, (⟨rfl, hJ9⟩ | ⟨rfl, hJ9⟩)⟩
              · obtain ⟨hS11, hM11, hk11⟩ := keepY M9 W11 hk9 hM9
                refine hK.out _ _ (.inr hS11) ?_
                clear hK K
                (try simp only [Act.put, List.setIfInBounds_toArray, List.set_cons_zero, List.set_cons_succ])
                refine wpAnyR_take (i := 13) (oi := ⟨some 51, _, _, _, _, _⟩) (v := ?_) (by kernel_rfl) (by kernel_rfl) rfl (by kernel_rfl) (by kernel_rfl) (by kernel_rfl) (fun _ _ _ h => h) (Or.inl ⟨by rfl, ?_⟩) (by assumption) ?_
                rotate_left
                · intro w hSw; (try dsimp only at hSw); (try go_split_ands); go_simp; (try (with_reducible rfl))
                (try simp only [Act.put, List.setIfInBounds_toArray, List.set_cons_zero, List.set_cons_succ])
                refine wpAnyR_take (i := 14) (oi := ⟨some 52, _, _, _, _, _⟩) (v := ?_) (by kernel_rfl) (by kernel_rfl) rfl (by kernel_rfl) (by kernel_rfl) (by kernel_rfl) (fun _ _ _ h => h) (Or.inl ⟨by rfl, ?_⟩) (by assumption) ?_
                rotate_left
                · intro w hSw; (try dsimp only at hSw); (try go_split_ands); go_simp; (try (with_reducible rfl))
                (try simp only [Act.put, List.setIfInBounds_toArray, List.set_cons_zero, List.set_cons_succ])
                refine wpAnyR_done (by kernel_rfl) ?_ _
                gi_wp2
                go_roundw
                case rel => exact ⟨k + 1, by omega, by go_num, M9, hJ9, hM11, hk11⟩
                case measure => simp [intOf]; omega
              · obtain ⟨hS11, hM11, hk11⟩ := keepY M9 W11 hk9 hM9
                refine hK.out _ _ (.inr hS11) ?_
                clear hK K
                (try simp only [Act.put, List.setIfInBounds_toArray, List.set_cons_zero, List.set_cons_succ])
                refine wpAnyR_take (i := 13) (oi := ⟨some 51, _, _, _, _, _⟩) (v := ?_) (by kernel_rfl) (by kernel_rfl) rfl (by kernel_rfl) (by kernel_rfl) (by kernel_rfl) (fun _ _ _ h => h) (Or.inl ⟨by rfl, ?_⟩) (by assumption) ?_
                rotate_left
                · intro w hSw; (try dsimp only at hSw); (try go_split_ands); go_simp; (try (with_reducible rfl))
                (try simp only [Act.put, List.setIfInBounds_toArray, List.set_cons_zero, List.set_cons_succ])
                refine wpAnyR_take (i := 14) (oi := ⟨some 52, _, _, _, _, _⟩) (v := ?_) (by kernel_rfl) (by kernel_rfl) rfl (by kernel_rfl) (by kernel_rfl) (by kernel_rfl) (fun _ _ _ h => h) (Or.inl ⟨by rfl, ?_⟩) (by assumption) ?_
                rotate_left
                · intro w hSw; (try dsimp only at hSw); (try go_split_ands); go_simp; (try (with_reducible rfl))
                (try simp only [Act.put, List.setIfInBounds_toArray, List.set_cons_zero, List.set_cons_succ])
                refine wpAnyR_done (by kernel_rfl) ?_ _
                gi_wp2
                obtain ⟨M12, g1, g2, g3⟩ := fin Jx _ M9 W11 hJ9 hM11 hk11
                exact ⟨M12, g1, g2, rfl, _, hpp, g3⟩
            · gi_wp2
              refine wpIn_region_R 15 (S := fun V => V.cell? ⟨W4.heap.size, 0, none⟩ = some (.int .i64 q0) ∧ V.cell? ⟨W4.heap.size, 1, none⟩ = some (.bool q1) ∧ V.cell? ⟨W4.heap.size, 2, none⟩ = some (.int .i64 q2) ∧ V.cell? ⟨W4.heap.size, 3, none⟩ = some (.string q3) ∧ V.cell? ⟨W.heap.size, 0, none⟩ = some (.func (.yield l) #[] #[]) ∧ V.cell? ⟨b2, 0, none⟩ = some (.int .i64 ro)) (by kernel_rfl) ⟨e0, e1, e2, e3, e5, d2⟩ (fun hS0 => ?_)
              refine wpAnyR_take (i := 0) (oi := ⟨some 38, _, _, _, _, _⟩) (v := ?_) (by kernel_rfl) (by kernel_rfl) rfl (by kernel_rfl) (by kernel_rfl) (by kernel_rfl) (fun _ _ _ h => h) (Or.inl ⟨by rfl, ?_⟩) (by assumption) ?_
              rotate_left
              · intro w hSw; (try dsimp only at hSw); (try go_split_ands); go_simp; (try (with_reducible rfl))
              (try simp only [Act.put, List.setIfInBounds_toArray, List.set_cons_zero, List.set_cons_succ])
              refine wpAnyR_take (i := 1) (oi := ⟨some 39, _, _, _, _, _⟩) (v := ?_) (by kernel_rfl) (by kernel_rfl) rfl (by kernel_rfl) (by kernel_rfl) (by kernel_rfl) (fun _ _ _ h => h) (Or.inl ⟨by rfl, ?_⟩) (by assumption) ?_
              rotate_left
              · intro w hSw; (try dsimp only at hSw); (try go_split_ands); go_simp; (try (with_reducible rfl))
              (try simp only [Act.put, List.setIfInBounds_toArray, List.set_cons_zero, List.set_cons_succ])
              refine wpAnyR_take (i := 2) (oi := ⟨some 40, _, _, _, _, _⟩) (v := ?_) (by kernel_rfl) (by kernel_rfl) rfl (by kernel_rfl) (by kernel_rfl) (by kernel_rfl) (fun _ _ _ h => h) (Or.inl ⟨by rfl, ?_⟩) (by assumption) ?_
              rotate_left
              · intro w hSw; (try dsimp only at hSw); (try go_split_ands); go_simp; (try (with_reducible rfl))
              (try simp only [Act.put, List.setIfInBounds_toArray, List.set_cons_zero, List.set_cons_succ])
              refine wpAnyR_one (i := 3) (o := ⟨some 41, _, _, _, _, _⟩) (by kernel_rfl) (by kernel_rfl) rfl (fun K hK => ?_)
              go_simp
              refine (exec_at.calls Ao co ob ro _ _ _ _ wr.drew (Kd.C_drew hCo) hleo hb).mono ?_
              rintro e W6 ⟨rfl, hb6⟩
              have hb6' : Below wr.heap.size wr W6 := (below_drew (Below.refl _ wr)).trans hb6
              have hS6 := keep W6 (Kpt.of_below hb6')
              (try dsimp only)
              refine hK.out _ _ (.inr hS6) ?_
              clear hK K
              (try simp only [Act.put, List.setIfInBounds_toArray, List.set_cons_zero, List.set_cons_succ])
              refine wpAnyR_one (i := 4) (o := ⟨some 42, _, _, _, _, _⟩) (by kernel_rfl) (by kernel_rfl) rfl (fun K hK => ?_)
              go_simp
              refine (value_Compare.calls q0 q1 q2 q3 p0 p1 p2 p3 _ W6 (by rw [value_Compare.f, hcv])).mono ?_
              rintro e W7 ⟨rfl, hb7⟩
              have hb7' : Below wr.heap.size wr W7 := hb6'.trans (hb7.mono hb6'.size)
              have hS7 := keep W7 (Kpt.of_below hb7')
              (try dsimp only)
              refine hK.out _ _ (.inr hS7) ?_
              clear hK K
              (try simp only [Act.put, List.setIfInBounds_toArray, List.set_cons_zero, List.set_cons_succ])
              have hzf : (z == 0) = false := by simpa using hcmp
              have hzd : decide (z = 0) = false := by simpa using hcmp
              refine wpAnyR_take (i := 5) (oi := ⟨some 43, _, _, _, _, _⟩) (v := ?_) (by kernel_rfl) (by kernel_rfl) rfl (by kernel_rfl) (by kernel_rfl) (by kernel_rfl) (fun _ _ _ h => h) (Or.inl ⟨by rfl, ?_⟩) (by assumption) ?_
              rotate_left
              · intro w hSw; (try dsimp only at hSw); (try go_split_ands); go_simp; (try (with_reducible rfl))
              (try simp only [Act.put, List.setIfInBounds_toArray, List.set_cons_zero, List.set_cons_succ])
              (try simp only [hzf, hzd])
              refine wpAnyR_take (i := 6) (oi := ⟨some 44, _, _, _, _, _⟩) (v := ?_) (by kernel_rfl) (by kernel_rfl) rfl (by kernel_rfl) (by kernel_rfl) (by kernel_rfl) (fun _ _ _ h => h) (Or.inl ⟨by rfl, ?_⟩) (by assumption) ?_
              rotate_left
              · intro w hSw; (try dsimp only at hSw); (try go_split_ands); go_simp; (try (with_reducible rfl))
              (try simp only [Act.put, List.setIfInBounds_toArray, List.set_cons_zero, List.set_cons_succ])
              refine wpAnyR_take (i := 7) (oi := ⟨some 45, _, _, _, _, _⟩) (v := undef) (by kernel_rfl) (by kernel_rfl) rfl (by kernel_rfl) (by kernel_rfl) (by kernel_rfl) (fun _ _ _ h => h) (Or.inr ⟨by rfl, rfl⟩) (by assumption) ?_
              (try simp only [Act.put, List.setIfInBounds_toArray, List.set_cons_zero, List.set_cons_succ])
              refine wpAnyR_take (i := 8) (oi := ⟨some 46, _, _, _, _, _⟩) (v := undef) (by kernel_rfl) (by kernel_rfl) rfl (by kernel_rfl) (by kernel_rfl) (by kernel_rfl) (fun _ _ _ h => h) (Or.inr ⟨by rfl, rfl⟩) (by assumption) ?_
              (try simp only [Act.put, List.setIfInBounds_toArray, List.set_cons_zero, List.set_cons_succ])
              refine wpAnyR_take (i := 9) (oi := ⟨some 47, _, _, _, _, _⟩) (v := undef) (by kernel_rfl) (by kernel_rfl) rfl (by kernel_rfl) (by kernel_rfl) (by kernel_rfl) (fun _ _ _ h => h) (Or.inr ⟨by rfl, rfl⟩) (by assumption) ?_
              (try simp only [Act.put, List.setIfInBounds_toArray, List.set_cons_zero, List.set_cons_succ])
              refine wpAnyR_take (i := 10) (oi := ⟨some 48, _, _, _, _, _⟩) (v := undef) (by kernel_rfl) (by kernel_rfl) rfl (by kernel_rfl) (by kernel_rfl) (by kernel_rfl) (fun _ _ _ h => h) (Or.inr ⟨by rfl, rfl⟩) (by assumption) ?_
              (try simp only [Act.put, List.setIfInBounds_toArray, List.set_cons_zero, List.set_cons_succ])
              refine wpAnyR_take (i := 11) (oi := ⟨some 49, _, _, _, _, _⟩) (v := undef) (by kernel_rfl) (by kernel_rfl) rfl (by kernel_rfl) (by kernel_rfl) (by kernel_rfl) (fun _ _ _ h => h) (Or.inr ⟨by rfl, rfl⟩) (by assumption) ?_
              (try simp only [Act.put, List.setIfInBounds_toArray, List.set_cons_zero, List.set_cons_succ])
              refine wpAnyR_take (i := 12) (oi := ⟨some 50, _, _, _, _, _⟩) (v := undef) (by kernel_rfl) (by kernel_rfl) rfl (by kernel_rfl) (by kernel_rfl) (by kernel_rfl) (fun _ _ _ h => h) (Or.inr ⟨by rfl, rfl⟩) (by assumption) ?_
              (try simp only [Act.put, List.setIfInBounds_toArray, List.set_cons_zero, List.set_cons_succ])
              refine wpAnyR_take (i := 13) (oi := ⟨some 51, _, _, _, _, _⟩) (v := undef) (by kernel_rfl) (by kernel_rfl) rfl (by kernel_rfl) (by kernel_rfl) (by kernel_rfl) (fun _ _ _ h => h) (Or.inr ⟨by rfl, rfl⟩) (by assumption) ?_
              (try simp only [Act.put, List.setIfInBounds_toArray, List.set_cons_zero, List.set_cons_succ])
              refine wpAnyR_take (i := 14) (oi := ⟨some 52, _, _, _, _, _⟩) (v := ?_) (by kernel_rfl) (by kernel_rfl) rfl (by kernel_rfl) (by kernel_rfl) (by kernel_rfl) (fun _ _ _ h => h) (Or.inl ⟨by rfl, ?_⟩) (by assumption) ?_
              rotate_left
              · intro w hSw; (try dsimp only at hSw); (try go_split_ands); go_simp; (try (with_reducible rfl))
              (try simp only [Act.put, List.setIfInBounds_toArray, List.set_cons_zero, List.set_cons_succ])
              refine wpAnyR_done (by kernel_rfl) ?_ _
              gi_wp2
              go_roundw
              case rel =>
                have hno : ¬ (hitB x lo ro ob = true) := fun h => hcmp (hh.1 h)
                refine ⟨k + 1, by omega, by go_num, Mk, ?_, fun i hi => ⟨(hMk i hi).1, Nat.lt_of_lt_of_le (hMk i hi).2 hb7'.size⟩, hkp.trans (Kpt.of_new Mj hb7') (fun _ _ h => h.elim id id)⟩
                rw [← hts, filter_snoc, if_neg hno]
                exact hJ _ _ _ _ hJk (Kpt.of_new _ hb7')
              case measure => simp [intOf]; omega
          · obtain rfl : k = F.length := by omega
            gi_wp2
            rw [List.take_length, ← hjn] at hJk
            obtain ⟨M9, h91, h92, h93⟩ := fin J _ Mk wr hJk hMk hkp
            refine ⟨M9, h91, h92, ?_⟩
            show J2 J Mc W W2 (joinL (pre ++ [x]) right lo ro) M9 wr
            rw [hsn]
            exact h93
    case done2 =>
      intro D2 W3 M3 hI3 hk3 hM3 hD3 hDw3 hDM3
      gi_wp2
      simp only [Exit.noGoto]
      gi_wp2
      have hMcW : ∀ i, Mc i → i < W.heap.size := fun i h => (hMc i h).2
      have hDW : W.heap.size ≤ D := by omega
      have hD2 : D < W2.heap.size := (Array.getElem?_eq_some_iff.1 hD).1
      have hDk : (W3.putObj D2 (.deferred none)).heap[D]? = some (.deferred (some [])) := by
        obtain ⟨_, _, _, _, hk⟩ := hI3
        exact (Kpt.putObj W3 D2 _).at (hk.at hD (fun h => by have := hMcW D h; omega)) (by omega)
      refine ⟨by simp, .inl ⟨_, _, rfl, run_takeDeferred hD3, by simp, .inl ⟨_, _, rfl, run_takeDeferred hDk, ?_⟩⟩⟩
      obtain ⟨M4, h41, h42, h43⟩ := (hI3.put hJ hMcW hzW2 hDw3 hDM3 (o := .deferred none)).ends hJ hMcW hBW hDW (fun h => by omega) (o := .deferred none)
      exact ⟨_, results_none rfl _ _ _, ⟨_, rfl⟩, M4, h41, h42, .inl h43⟩
    case stop2 =>
      intro D2 c pre W3 M3 hpre hI3 hk3 hM3 hD3 hDw3 hDM3
      obtain ⟨rfl, y, hy, hI3⟩ := hI3
      gi_wp2
      simp only [Exit.noGoto]
      gi_wp2
      have hMcW : ∀ i, Mc i → i < W.heap.size := fun i h => (hMc i h).2
      have hDW : W.heap.size ≤ D := by omega
      have hD2 : D < W2.heap.size := (Array.getElem?_eq_some_iff.1 hD).1
      have hDk : (W3.putObj D2 (.deferred none)).heap[D]? = some (.deferred (some [])) := by
        obtain ⟨_, _, _, _, hk⟩ := hI3
        exact (Kpt.putObj W3 D2 _).at (hk.at hD (fun h => by have := hMcW D h; omega)) (by omega)
      refine ⟨by simp, .inl ⟨_, _, rfl, run_takeDeferred hD3, by simp, .inl ⟨_, _, rfl, run_takeDeferred hDk, ?_⟩⟩⟩
      obtain ⟨M4, h41, h42, h43⟩ := (hI3.put hJx hMcW hzW2 hDw3 hDM3 (o := .deferred none)).ends hJx hMcW hBW hDW (fun h => by omega) (o := .deferred none)
      exact ⟨_, results_none rfl _ _ _, ⟨_, rfl⟩, M4, h41, h42, .inr ⟨y, hy, h43⟩⟩
end Go.Proofs.Ytghblnldokpceaa.QV
