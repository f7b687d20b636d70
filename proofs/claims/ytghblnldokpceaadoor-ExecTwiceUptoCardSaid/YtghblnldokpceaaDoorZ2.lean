/- The parts Join, Same, Twice, Told, Group1, RoundW, GroupF, AliveX, ExprRef, ExprAll, G14, Filter, QVx3, Pick, Project, Limit, Ops, LFilters, LTwice of this proof, one behind the other. -/
import Derived.Test.YtghblnldokpceaaDoorZ1
import Derived.Handy
import Derived.OrdersHeld
import Derived.OrdersIn
import Derived.TacticsIn
import Derived.RangeFuncCalls
import Derived.Deep.RegionHeld
import Derived.LoopTactic
import Derived.Deep.RegionHeld3
import Derived.Deep.Light
/- exec.Join: rows put together where two columns are equal: what its iterator gives. -/
namespace Go.Proofs.YtghblnldokpceaaDoor.QV
open Go.RowKit Go.Proofs.YtghblnldokpceaaDoorW.PrintWords Go.Proofs.YtghblnldokpceaaDoor.Seq Go.Shelf Go.Proofs.YtghblnldokpceaaDoor.Op
set_option linter.unusedVariables false
set_option linter.unusedSimpArgs false
attribute [local go_sem] Oper.semAt_some
abbrev V' : Type := S43
abbrev zV : V' := z43

def atS (l : Row) (n : Int) : V' := if n < 0 then ⟨0, false, 0, ⟨#[]⟩⟩ else if n ≥ (l.length : Int) then ⟨0, false, 0, ⟨#[]⟩⟩ else l.getD n.toNat zV
theorem at_f (l : Row) (n : Int) : exec_at.f l n = some ((atS l n).f0, (atS l n).f1, (atS l n).f2, (atS l n).f3) := by
  unfold exec_at.f atS value_Null.f
  by_cases h1 : n < 0
  · rw [if_pos h1, if_pos h1]; rfl
  · by_cases h2 : n ≥ (l.length : Int)
    · rw [if_neg h1, if_neg h1, if_pos h2, if_pos h2]; rfl
    · rw [if_neg h1, if_neg h1, if_neg h2, if_neg h2, if_pos (by omega), if_pos (by omega)]; rfl
/-- An iterator's value: what it gives, and how that is read. -/
def IsSeq (w : World) (sv : Value) (xs : List Row) : Prop := ∃ g lb, ∃ Rd : World → (Nat → Prop) → Row → Array Value → Prop, sv = .func (.func g) #[] lb ∧ (∀ args w, (callFunc g args).run Tryd.prog w = .ok (.enter g args) w) ∧ SeqOf Tryd.prog g lb Rd xs w ∧
  (∀ A B N x vs, Rd A N x vs → Kpt (fun i => w.heap.size ≤ i ∧ ¬ N i) A B → Rd B N x vs) ∧ (∀ A N x vs, Rd A N x vs → ∃ Ad c, vs = #[.slice Ad x.length c] ∧ x.length ≤ c ∧ kS.C A Ad x.length x)
theorem IsSeq.later {w w' : World} {sv : Value} {xs : List Row} (h : IsSeq w sv xs) (hb : Below w.heap.size w w') : IsSeq w' sv xs := by
  obtain ⟨g, lb, Rd, h1, h2, h3, h4, h5⟩ := h
  exact ⟨g, lb, Rd, h1, h2, h3.later hb, fun A B N x vs hr hk => h4 A B N x vs hr (hk.mono (fun i _ h => ⟨Nat.le_trans hb.size h.1, h.2⟩)), h5⟩
theorem RdNew.reads {w0 A : World} {N : Nat → Prop} {x : Row} {vs : Array Value} (h : RdNew w0 A N x vs) : ∃ Ad c, vs = #[.slice Ad x.length c] ∧ x.length ≤ c ∧ kS.C A Ad x.length x := by
  obtain ⟨v, rfl, hr, _⟩ := h
  obtain ⟨A1, c, rfl, hl, hC⟩ := Kd.R_reads hr
  exact ⟨A1, c, rfl, hl, hC⟩

def nzB (ro : Int) (b : Row) : Bool := (atS b ro).f0 != 0
def hitB (a : Row) (lo ro : Int) (b : Row) : Bool := decide (cmpV (toV (atS a lo)) (toV (atS b ro)) = 0)
def joinOne (lo ro : Int) (all : List Row) (a : Row) : List Row := if (atS a lo).f0 = 0 then [] else (all.filter (hitB a lo ro)).map (a ++ ·)
def joinL (left right : List Row) (lo ro : Int) : List Row := left.flatMap (joinOne lo ro (right.filter (nzB ro)))

theorem filter_snoc {α : Type} (p : α → Bool) (l : List α) (x : α) : (l ++ [x]).filter p = if p x = true then l.filter p ++ [x] else l.filter p := by
  rw [List.filter_append, List.filter_cons]
  split <;> simp

theorem joinL_snoc (pre right : List Row) (x : Row) (lo ro : Int) : joinL (pre ++ [x]) right lo ro = joinL pre right lo ro ++ joinOne lo ro (right.filter (nzB ro)) x := by
  simp [joinL]
theorem joinL_prefix {left right : List Row} {pre : List Row} {x : Row} {lo ro : Int} {l : List Row} (h : (pre ++ [x]) <+: left) (hl : l <+: joinOne lo ro (right.filter (nzB ro)) x) : (joinL pre right lo ro ++ l) <+: joinL left right lo ro := by
  obtain ⟨t, rfl⟩ := h
  obtain ⟨u, hu⟩ := hl
  have : joinL (pre ++ [x] ++ t) right lo ro = joinL (pre ++ [x]) right lo ro ++ joinL t right lo ro := by simp [joinL]
  rw [this, joinL_snoc, ← hu]
  exact ⟨u ++ joinL t right lo ro, by simp [List.append_assoc]⟩
theorem kind_of (a b c d : Value) (w : World) : Sem.run Tryd.prog (Instr.field 43 (.agg #[a, b, c, d]) 0) w = .ok a w := by
  kernel_rfl

set_option maxRecDepth 100000 in
set_option maxHeartbeats 4000000 in
theorem join_seq (left right : List Row) (lo ro : Int) (svL svR : Value) (b1 b2 b3 b4 : Nat) (w : World) (hL : IsSeq w svL left) (hR : IsSeq w svR right)
    (h1 : w.cell? ⟨b1, 0, none⟩ = some svR) (h2 : w.cell? ⟨b2, 0, none⟩ = some (.int .i64 ro)) (h3 : w.cell? ⟨b3, 0, none⟩ = some svL) (h4 : w.cell? ⟨b4, 0, none⟩ = some (.int .i64 lo))
    (hbR : ∀ x ∈ right, x.length ≤ 1048576) (hbL : ∀ x ∈ left, x.length ≤ 1048576) (hnR : right.length ≤ 1048576) :
    SeqOf Tryd.prog 35 #[.pointer (some ⟨b1, 0, none⟩), .pointer (some ⟨b2, 0, none⟩), .pointer (some ⟨b3, 0, none⟩), .pointer (some ⟨b4, 0, none⟩)] (RdNew w) (joinL left right lo ro) w := by
  intro l J Jx W Mc hW hMc hJ hJx hY h0
  have hzw : w.heap.size ≤ W.heap.size := hW.size
  obtain ⟨gR, lbR, RdR, rfl, egR, hsR, hkR, hrR⟩ := hR
  obtain ⟨gL, lbL, RdL, rfl, egL, hsL, hkL, hrL⟩ := hL
  refine (callsIn_wide (n := 0)).1 (callsIn_of_wp_marks Tryd.func35 rfl trivial ?_ rfl)
  simp only [Tryd.ntmps35, List.size_toArray, List.length_cons, List.length_nil, Nat.reduceAdd, Nat.reduceSub, Array.replicate_succ, Array.replicate_zero, List.push_toArray, List.append_toArray, List.nil_append, List.cons_append]
  gi_wp2
  have d1 : ((W.alloc (.cells #[.func (.yield l) #[] #[]] 46)).alloc (.cells #[.slice none 0 0] 22)).cell? ⟨b1, 0, none⟩ = some (.func (.func gR) #[] lbR) := pw_cell_below (hW.trans ((below_alloc (below_alloc (Below.refl _ _) _) _).mono hzw)) h1
  refine wpIn_scope ?_
  gi_wp2
  obtain ⟨W1, hW1⟩ : ∃ W1, (W.alloc (.cells #[.func (.yield l) #[] #[]] 46)).alloc (.cells #[.slice none 0 0] 22) = W1 := ⟨_, rfl⟩
  have hbW1 : Below W.heap.size W W1 := by rw [← hW1]; exact below_alloc (below_alloc (Below.refl _ _) _) _
  have hszW1 : W1.heap.size = W.heap.size + 2 := by rw [← hW1]; simp
  have hx5 : W1.heap[W.heap.size]? = some (.cells #[.func (.yield l) #[] #[]] 46 (0, 0)) := by rw [← hW1]; exact blk_alloc (blk_new _ _) _
  have hx6 : W1.heap[W.heap.size + 1]? = some (.cells #[.slice none 0 0] 22 (0, 0)) := by rw [← hW1]; have := blk_new (W.alloc (.cells #[.func (.yield l) #[] #[]] 46)) (.cells #[.slice none 0 0] 22); rwa [World.size_alloc] at this
  rw [hW1]
  refine wpIn_range (gf := gR) (lb := lbR) rfl egR hsR (hW.trans (hbW1.mono hzw)) (fun A N x vs h => by obtain ⟨Ad, c, rfl, _⟩ := hrR _ _ _ _ h; rfl) hkR
    (fun pre M A => AllI (W.heap.size + 1) W.heap.size (pre.filter (nzB ro)) M A ∧ Below W.heap.size W A ∧ ∀ i, M i → W.heap.size ≤ i) (fun _ _ _ _ => False) (fun pre M A B h hk => ⟨h.1.kept hk, h.2.1.trans (hk.below h.2.1.size (fun i _ k => by omega)), h.2.2⟩) (fun _ _ _ _ _ h _ => h)
    (fun i => i = W.heap.size + 1) ?hM1 ?h01 (fun x vs a₁ M A => ∃ v, vs = #[v] ∧ a₁ = { tmps := #[.func (.yield l) #[] #[], .pointer (some ⟨b1, 0, none⟩), .pointer (some ⟨b2, 0, none⟩), .pointer (some ⟨b3, 0, none⟩), .pointer (some ⟨b4, 0, none⟩), .pointer (some ⟨W.heap.size, 0, none⟩), .pointer (some ⟨W.heap.size + 1, 0, none⟩), v, undef, undef, undef, undef, .func (.func gR) #[] lbR, v] ++ Array.replicate 40 undef, defers := [] })
    (fun _ _ _ _ _ _ h _ => h) ?assign1 ?body1 ?done1 ?stop1
  case hM1 => intro i hi; subst hi; omega
  case h01 => exact ⟨⟨rfl, _, hx6, Kd.S_nil _ _ _ _ _⟩, hbW1, fun i hi => by omega⟩
  case stop1 =>
    intro D c pre W M' hpre h
    exact h.elim
  case assign1 =>
    intro l2 pre x vs N A M hI hpre hrd hM hN
    obtain ⟨Ad, c, rfl, hle, hC⟩ := hrR _ _ _ _ hrd
    gi_wp2
    refine ⟨M, fun i hi => ⟨.inl hi, (hM i hi).2⟩, Kpt.refl _ _, hI, _, rfl, ?_⟩
    simp only [List.size_toArray, List.length_cons, List.length_nil, Nat.reduceAdd, Nat.reduceSub, Array.replicate_succ, Array.replicate_zero, List.push_toArray, List.append_toArray, List.nil_append, List.cons_append]
  case body1 =>
    intro l2 pre x vs N A M a₁ hI hpre hrd hax hM hN
    obtain ⟨v, rfl, rfl⟩ := hax
    simp only [List.size_toArray, List.length_cons, List.length_nil, Nat.reduceAdd, Nat.reduceSub, Array.replicate_succ, Array.replicate_zero, List.push_toArray, List.append_toArray, List.nil_append, List.cons_append]
    obtain ⟨⟨hMB, vl, hbx, hS⟩, hBW, hMW⟩ := hI
    obtain ⟨Ad, c, hvv, hle, hC⟩ := hrR _ _ _ _ hrd
    obtain rfl : v = .slice Ad x.length c := by simpa using hvv
    clear hvv
    have hx1 := hbR x (hpre.subset (by simp))
    have hlen : pre.length + 1 ≤ right.length := by have := hpre.length_le; simpa using this
    have hlenF : (pre.filter (nzB ro)).length ≤ pre.length := List.length_filter_le _ _
    have d2 : A.cell? ⟨b2, 0, none⟩ = some (.int .i64 ro) := pw_cell_below (hW.trans (hBW.mono hzw)) h2
    have hzA : W.heap.size + 1 < A.heap.size := blk_lt hbx
    have ha := at_f x ro
    have hfs := filter_snoc (nzB ro) pre x
    have hnz : nzB ro x = ((atS x ro).f0 != 0) := rfl
    generalize (atS x ro).f0 = q0, (atS x ro).f1 = q1, (atS x ro).f2 = q2, (atS x ro).f3 = q3 at ha hnz
    by_cases hz : q0 = 0
    · subst hz
      gi_wp2
      refine ⟨trivial, rfl, calls_in _ _ ((exec_at.calls Ad c x ro _ _ _ _ A hC hle ha).mono ?_)⟩
      rintro e W2 ⟨rfl, hb1⟩
      gi_wp2
      simp only [kind_of]
      go_simp
      gi_wp2
      refine ⟨M, fun i hi => ⟨.inl hi, Nat.lt_of_lt_of_le (hM i hi).2 hb1.size⟩, Kpt.of_new _ hb1, ?_⟩
      show AllI _ _ ((pre ++ [x]).filter (nzB ro)) M W2 ∧ _
      rw [hfs, hnz]
      exact ⟨AllI.kept (q := fun _ => True) ⟨hMB, vl, hbx, hS⟩ (Kpt.of_new _ hb1), hBW.trans (hb1.mono (by omega)), hMW⟩
    · gi_wp2
      refine ⟨trivial, rfl, calls_in _ _ ((exec_at.calls Ad c x ro _ _ _ _ A hC hle ha).mono ?_)⟩
      rintro e W2 ⟨rfl, hb1⟩
      gi_wp2
      simp only [kind_of]
      go_simp
      gi_wp2
      have hb1A := hb1
      have hbx1 := blk_below hbx hb1A
      have c0 : W2.drew.cell? ⟨W.heap.size + 1, 0, none⟩ = some vl := blk_cell hbx1 0
      have f0 : W2.drew.frozen? ⟨W.heap.size + 1, 0, none⟩ = false := blk_frozen hbx1 0
      refine wpIn_region_R 5 (S := fun W' => W'.cell? ⟨W.heap.size + 1, 0, none⟩ = some vl ∧ W'.frozen? ⟨W.heap.size + 1, 0, none⟩ = false) (by kernel_rfl) ⟨c0, f0⟩ (fun hS0 => ?_)
      refine wpAnyR_take (i := 0) (oi := ⟨some 19, _, _, _, _, _⟩) (v := ?_) (by kernel_rfl) (by kernel_rfl) rfl (by kernel_rfl) (by kernel_rfl) (by kernel_rfl) (fun _ _ _ h => h) (Or.inl ⟨by rfl, ?_⟩) (by assumption) ?_
      rotate_left
      · intro w hSw; (try dsimp only at hSw); (try go_split_ands); go_simp; (try (with_reducible rfl))
      (try simp only [Act.put, List.setIfInBounds_toArray, List.set_cons_zero, List.set_cons_succ])
      refine wpAnyR_take (i := 1) (oi := ⟨some 20, _, _, _, _, _⟩) (v := ?_) (by kernel_rfl) (by kernel_rfl) rfl (by kernel_rfl) (by kernel_rfl) (by kernel_rfl) (fun _ _ _ h => h) (Or.inl ⟨by rfl, ?_⟩) (by assumption) ?_
      rotate_left
      · intro w hSw; (try dsimp only at hSw); (try go_split_ands); go_simp; (try (with_reducible rfl))
      (try simp only [Act.put, List.setIfInBounds_toArray, List.set_cons_zero, List.set_cons_succ])
      refine wpAnyR_one (i := 2) (o := ⟨some 21, _, _, _, _, _⟩) (by kernel_rfl) (by kernel_rfl) rfl (fun K hK => ?_)
      go_simp
      refine (clone_any Ad x c W2.drew (Kd.C_below (Kd.C_below hC hb1) (below_drew (Below.refl _ _))) hle (by omega)).mono ?_
      rintro e W3 ⟨v1, rfl, hR1, hb3⟩
      have hb3A : Below A.heap.size A W3 := hb1.trans (((below_drew (Below.refl _ W2)).trans hb3).mono hb1.size)
      have hbx3 := blk_below hbx hb3A
      (try dsimp only)
      refine hK.out _ _ (.inr ⟨blk_cell hbx3 0, blk_frozen hbx3 0⟩) ?_
      clear hK K
      (try simp only [Act.put, List.setIfInBounds_toArray, List.set_cons_zero, List.set_cons_succ])
      obtain ⟨A1, c1, rfl, hle1, hC1⟩ := Kd.R_reads hR1
      refine wpAnyR_one (i := 3) (o := ⟨some 22, _, _, _, _, _⟩) (by kernel_rfl) (by kernel_rfl) rfl (fun K hK => ?_)
      go_simp
      refine hK.out _ _ (.inr ⟨blk_cell (blk_alloc hbx3 _) 0, blk_frozen (blk_alloc hbx3 _) 0⟩) ?_
      clear hK K
      (try simp only [Act.put, List.setIfInBounds_toArray, List.set_cons_zero, List.set_cons_succ])
      refine wpAnyR_one (i := 4) (o := ⟨some 23, _, _, _, _, _⟩) (by kernel_rfl) (by kernel_rfl) rfl (fun K hK => ?_)
      have hzA3 : A.heap.size ≤ W3.heap.size := hb3A.size
      have hzA2 : A.heap.size ≤ W2.heap.size := hb1.size
      refine Kd.S_append_step kRows (w0 := A) W.heap.size (by rfl) (.tmp 19) (.tmp 22) 22 31 _ 24 rfl Tryd.underlying22 infoRow rfl (by decide) (by decide) vl (pre.filter (nzB ro)) x [.slice A1 x.length c1]
        (fun k => (M k ∧ k ≠ W.heap.size + 1) ∨ A.heap.size ≤ k) (fun k => (Value.slice A1 x.length c1).ownBlock = some k) rfl rfl ⟨_, rfl, RS_ok (Kd.R_lower hR1 (by show W.heap.size ≤ W2.heap.size; omega)) (fun _ h => h)⟩ ?_ (fun k hk => .inr (by omega)) ?_ (hb3A.mono (by omega)) (by omega) (by omega) ?_
      · intro k hk
        have := Kd.R_base hR1 k hk
        exact ⟨.inr (Nat.le_trans hzA2 this), fun e => by have h2 := Kd.S_lt hS k e.symm; exact absurd this (by show ¬ W2.heap.size ≤ k; omega)⟩
      · refine Kd.S_mono (Kd.S_below (Kd.S_bound hS) hb3A) (fun k hk => ⟨.inl hk.1, fun h => ?_⟩)
        have := Kd.R_base hR1 k h
        exact absurd this (by show ¬ W2.heap.size ≤ k; have := hk.2.2.1; omega)
      intro v2 W4 hS2 hB2 hg2 hat2
      have hlapp : (pre.filter (nzB ro) ++ [x]).length = (pre.filter (nzB ro)).length + 1 := by simp
      obtain ⟨g2, cap2, rfl, hg2b, hg2l, cells2, hcells2⟩ := Kd.S_form hS2 (by omega)
      rw [hlapp] at hS2
      have hbx4 := blk_grown hbx3 hg2 (Kd.S_away hS (fun k hk => hk.2))
      refine hK.out _ _ (.inr ⟨blk_cell hbx4 0, blk_frozen hbx4 0⟩) ?_
      clear hK K
      (try simp only [Act.put, List.setIfInBounds_toArray, List.set_cons_zero, List.set_cons_succ])
      have hc4 : W4.cell? ⟨W.heap.size + 1, 0, none⟩ = some vl := blk_cell hbx4 0
      have hf4 : W4.frozen? ⟨W.heap.size + 1, 0, none⟩ = false := blk_frozen hbx4 0
      refine wpAnyR_one (i := 5) (o := ⟨none, _, _, _, _, _⟩) (by kernel_rfl) (by kernel_rfl) rfl (fun K hK => ?_)
      go_simp
      refine hK.out _ _ (.inl rfl) ?_
      clear hK K
      (try simp only [Act.put, List.setIfInBounds_toArray, List.set_cons_zero, List.set_cons_succ])
      refine wpAnyR_done (by kernel_rfl) ?_ _
      gi_wp2
      have hzA4 : W3.heap.size ≤ W4.heap.size := hg2.size
      obtain ⟨W5, hW5⟩ : ∃ W5, W4.setCell ⟨W.heap.size + 1, 0, none⟩ (.slice (some ⟨g2, 0, none⟩) ((pre.filter (nzB ro)).length + 1) cap2) = W5 := ⟨_, rfl⟩
      rw [hW5]
      have hk5 : Kpt (fun i => i = W.heap.size + 1) W4 W5 := by rw [← hW5]; exact Kpt.setCell W4 ⟨W.heap.size + 1, 0, none⟩ _
      have hbx5 : W5.heap[W.heap.size + 1]? = some (.cells #[.slice (some ⟨g2, 0, none⟩) ((pre.filter (nzB ro)).length + 1) cap2] 22 (0, 0)) := by rw [← hW5]; exact blk_set hbx4 0 _
      have hS5 : Kd.S kRows tRow W5 W.heap.size (fun k => ((M k ∧ k ≠ W.heap.size + 1) ∨ A.heap.size ≤ k) ∧ k < W5.heap.size) (.slice (some ⟨g2, 0, none⟩) ((pre.filter (nzB ro)).length + 1) cap2) (pre.filter (nzB ro) ++ [x]) := by
        have h3 : Kd.S kRows tRow W5 W.heap.size (fun k => (M k ∧ k ≠ W.heap.size + 1) ∨ A.heap.size ≤ k) (.slice (some ⟨g2, 0, none⟩) ((pre.filter (nzB ro)).length + 1) cap2) (pre.filter (nzB ro) ++ [x]) := by
          rw [← hW5]
          exact Kd.S_far (p := ⟨W.heap.size + 1, 0, none⟩) hS2 (fun k hk => by rcases hk with hk | hk; exact hk.2; show k ≠ W.heap.size + 1; omega) _
        exact Kd.S_mono (Kd.S_bound h3) (fun k hk => ⟨hk.1, hk.2.2.1⟩)
      have hKA5 : Kpt M A W5 := by
        refine ((Kpt.of_new M hb3A).trans (Kpt.grown hg2) (M := M) (fun i hi h => ?_)).trans hk5 (fun i hi h => ?_)
        · rcases h with h | h
          · exact h
          · exact ((Kd.S_R hS).1 i h.symm).1
        · rcases h with h | h
          · exact h
          · rw [h]; exact hMB
      have hz5 := hKA5.size
      refine ⟨fun i => (M i ∨ A.heap.size ≤ i) ∧ i < W5.heap.size, fun i hi => ⟨by rcases hi.1 with h | h; exact .inl h; exact .inr (.inr h), hi.2⟩, hKA5.mono (fun _ _ h => .inl h), ?_⟩
      show AllI _ _ ((pre ++ [x]).filter (nzB ro)) _ W5 ∧ _
      rw [hfs, hnz, if_pos (by simpa using hz)]
      refine ⟨⟨⟨.inl hMB, by omega⟩, _, hbx5, ?_⟩, ?_⟩
      · refine Kd.S_mono hS5 (fun k hk' => ?_)
        have hlt' := hk'.2
        rcases hk'.1 with h | h
        · exact ⟨⟨.inl h.1, by omega⟩, h.2⟩
        · exact ⟨⟨.inr h, by omega⟩, by omega⟩
      · refine ⟨hBW.trans (hKA5.below hBW.size (fun i _ h => hMW i h)), fun i hi => ?_⟩
        rcases hi.1 with h | h
        · exact hMW i h
        · omega
  case done1 =>
    intro D W2 M' hI hk hM' hD hDw hDM
    obtain ⟨⟨hMB, vl, hbx, hS⟩, hBW, hMW⟩ := hI
    have hbwW2 : Below w.heap.size w W2 := hW.trans (hBW.mono hzw)
    have d3 : W2.cell? ⟨b3, 0, none⟩ = some (.func (.func gL) #[] lbL) := pw_cell_below hbwW2 h3
    have hzW2 : W.heap.size ≤ W2.heap.size := hBW.size
    have hKc : Kpt Mc W W2 := (Kpt.of_new _ hBW)
    gi_wp2
    refine wpIn_label ?_
    gi_wp2
    refine wpIn_range (gf := gL) (lb := lbL) rfl egL hsL hbwW2 (fun A N x vs h => by obtain ⟨Ad, c, rfl, _⟩ := hrL _ _ _ _ h; rfl) hkL
      (fun pre => J2 J Mc W W2 (joinL pre right lo ro)) (fun c pre Mh A => c = .exit 2 ∧ ∃ y, y <+: joinL left right lo ro ∧ J2 Jx Mc W W2 y Mh A) (fun pre M A B h hk => h.kept hJ hzW2 hk) (fun c pre M A B h hk => by obtain ⟨e, y, hy, h⟩ := h; exact ⟨e, y, hy, h.kept hJx hzW2 hk⟩)
      (fun i => Mc i ∨ (W.heap.size ≤ i ∧ i < W2.heap.size)) ?hM2 ?h02 (fun x vs a₁ M A => ∃ v, vs = #[v] ∧ a₁ = { tmps := #[.func (.yield l) #[] #[], .pointer (some ⟨b1, 0, none⟩), .pointer (some ⟨b2, 0, none⟩), .pointer (some ⟨b3, 0, none⟩), .pointer (some ⟨b4, 0, none⟩), .pointer (some ⟨W.heap.size, 0, none⟩), .pointer (some ⟨W.heap.size + 1, 0, none⟩), undef, v, undef, undef, undef, .func (.func gR) #[] lbR, undef, undef, undef, undef, undef, undef, undef, undef, undef, undef, undef, .func (.func gL) #[] lbL, v] ++ Array.replicate 28 undef, defers := [] })
      (fun _ _ _ _ _ _ h _ => h) ?assign2 ?body2 ?done2 ?stop2
    case hM2 => intro i hi; rcases hi with h | h; have := hMc i h; omega; omega
    case h02 => exact ⟨Mc, hJ _ _ _ _ h0 (Kpt.of_new _ hBW), fun i => Iff.rfl, fun i hi => ⟨.inl hi, by have := hMc i hi; omega⟩, Kpt.refl _ _⟩
    case assign2 =>
      intro l2 pre x vs N A M hI hpre hrd hM hN
      obtain ⟨Ad, c, rfl, hle, hC⟩ := hrL _ _ _ _ hrd
      gi_wp2
      refine ⟨M, fun i hi => ⟨.inl hi, (hM i hi).2⟩, Kpt.refl _ _, hI, _, rfl, ?_⟩
      simp only [List.size_toArray, List.length_cons, List.length_nil, Nat.reduceAdd, Nat.reduceSub, Array.replicate_succ, Array.replicate_zero, List.push_toArray, List.append_toArray, List.nil_append, List.cons_append]
    case body2 =>
      intro l2 pre x vs N A Mh a₁ hI hpre hrd hax hM hN
      obtain ⟨v, rfl, rfl⟩ := hax
      simp only [List.size_toArray, List.length_cons, List.length_nil, Nat.reduceAdd, Nat.reduceSub, Array.replicate_succ, Array.replicate_zero, List.push_toArray, List.append_toArray, List.nil_append, List.cons_append]
      obtain ⟨Mj, hJ0, hMh, hMj, hKA⟩ := hI
      obtain ⟨Ad, c, hvv, hle, hC⟩ := hrL _ _ _ _ hrd
      obtain rfl : v = .slice Ad x.length c := by simpa using hvv
      clear hvv
      have hx1 := hbL x (hpre.subset (by simp))
      have hbA : Below w.heap.size w A := hbwW2.trans (hKA.below hbwW2.size (fun i _ h => (hMc i h).1))
      have d4 : A.cell? ⟨b4, 0, none⟩ = some (.int .i64 lo) := pw_cell_below hbA h4
      have hsn := joinL_snoc pre right x lo ro
      have hjp := fun l => joinL_prefix (left := left) (right := right) (lo := lo) (ro := ro) (l := l) hpre
      generalize hF : right.filter (nzB ro) = F at *
      have ha := at_f x lo
      obtain ⟨va, hva⟩ : ∃ va, atS x lo = va := ⟨_, rfl⟩
      have hjo : joinOne lo ro F x = if va.f0 = 0 then [] else (F.filter (hitB x lo ro)).map (x ++ ·) := by rw [joinOne, hva]
      have hhit : ∀ b, hitB x lo ro b = decide (cmpV (toV va) (toV (atS b ro)) = 0) := fun b => by rw [hitB, hva]
      rw [hva] at ha
      clear hva
      obtain ⟨q0, q1, q2, q3⟩ := va
      simp only at ha hjo
      by_cases hz : q0 = 0
      · subst hz
        gi_wp2
        refine ⟨trivial, rfl, calls_in _ _ ((exec_at.calls Ad c x lo _ _ _ _ A hC hle ha).mono ?_)⟩
        rintro e W4 ⟨rfl, hb4⟩
        gi_wp2
        obtain ⟨W5, hW5⟩ : ∃ W5, W4.alloc (.cells #[.int .i64 0, .bool q1, .int .i64 q2, .string q3] 43) = W5 := ⟨_, rfl⟩
        rw [hW5]
        have hb5 : Below A.heap.size A W5 := by rw [← hW5]; exact below_alloc hb4 _
        have hj2 : J2 J Mc W W2 (joinL pre right lo ro) Mh W5 := J2.kept hJ hzW2 ⟨Mj, hJ0, hMh, hMj, hKA⟩ (Kpt.of_new _ hb5)
        refine ⟨Mh, fun i hi => ⟨.inl hi, Nat.lt_of_lt_of_le (hM i hi).2 hb5.size⟩, Kpt.of_new _ hb5, ?_⟩
        show J2 J Mc W W2 (joinL (pre ++ [x]) right lo ro) Mh W5
        rw [hsn, hjo, if_pos trivial, List.append_nil]
        exact hj2
      · obtain ⟨Ag, cg, rfl⟩ := Kd.S_slice hS
        gi_wp2
        refine ⟨trivial, rfl, calls_in _ _ ((exec_at.calls Ad c x lo _ _ _ _ A hC hle ha).mono ?_)⟩
        rintro e W4 ⟨rfl, hb4⟩
        have hbxA : A.heap[W.heap.size + 1]? = some (.cells #[.slice Ag F.length cg] 22 (0, 0)) := hKA.at hbx (fun h => by have := (hMc _ h).2; omega)
        have d6 : (W4.alloc (.cells #[.int .i64 q0, .bool q1, .int .i64 q2, .string q3] 43)).cell? ⟨W.heap.size + 1, 0, none⟩ = some (.slice Ag F.length cg) := blk_cell (blk_alloc (blk_below hbxA hb4) _) 0
        gi_wp2
        obtain ⟨W5, hW5⟩ : ∃ W5, W4.alloc (.cells #[.int .i64 q0, .bool q1, .int .i64 q2, .string q3] 43) = W5 := ⟨_, rfl⟩
        rw [hW5]
        have hb5 : Below A.heap.size A W5 := by rw [← hW5]; exact below_alloc hb4 _
        have hx9 : W5.heap[W4.heap.size]? = some (.cells #[.int .i64 q0, .bool q1, .int .i64 q2, .string q3] 43 (0, 0)) := by rw [← hW5]; exact blk_new _ _
        have hsz5 : W5.heap.size = W4.heap.size + 1 := by rw [← hW5]; simp
        have hz4 : A.heap.size ≤ W4.heap.size := hb4.size
        have hzA : W2.heap.size ≤ A.heap.size := hKA.size
        have hj5 : J (joinL pre right lo ro) Mj W5 := hJ _ _ _ _ hJ0 (Kpt.of_new _ hb5)
        have hKW5 : Kpt Mc W2 W5 := hKA.trans (Kpt.of_new Mc hb5) (fun _ _ h => h.elim id id)
        have hjn : joinOne lo ro F x = (F.filter (hitB x lo ro)).map (x ++ ·) := by rw [hjo, if_neg hz]
        have hMcW : ∀ i, Mc i → i < W.heap.size := fun i h => (hMc i h).2
        have hx5' : W5.heap[W.heap.size]? = some (.cells #[.func (.yield l) #[] #[]] 46 (0, 0)) := hKW5.at (hk.at hx5 (by omega)) (fun h => by have := hMcW _ h; omega)
        have hzW : W.heap.size < W2.heap.size := by have := hk.size; omega
        clear hW5 d6 hjo
        have hmF : ∀ b ∈ F, b.length ≤ 1048576 := by rw [← hF]; intro b hb; exact hbR b (List.mem_filter.1 hb).1
        have fin : ∀ (JJ : List Row → (Nat → Prop) → World → Prop) (y : List Row) (Mk : Nat → Prop) (B : World), JJ y Mk B → (∀ i, Mk i → (Mj i ∨ W5.heap.size ≤ i) ∧ i < B.heap.size) → Kpt Mj W5 B →
            ∃ M', (∀ i, M' i → (Mh i ∨ N i ∨ A.heap.size ≤ i) ∧ i < B.heap.size) ∧ Kpt (fun i => Mh i ∨ N i) A B ∧ J2 JJ Mc W W2 y M' B := by
          intro JJ y Mk B hJy hMk hkB
          have hsB := hkB.size
          refine ⟨fun i => Mk i ∨ (W.heap.size ≤ i ∧ i < W2.heap.size), fun i hi => ?_, (Kpt.of_new (fun i => Mh i ∨ N i) hb5).trans hkB (fun i _ h => ?_), Mk, hJy, fun i => Iff.rfl, fun i hi => ⟨?_, (hMk i hi).2⟩, hKW5.trans hkB (fun i hi h => ?_)⟩
          · rcases hi with h | h
            · refine ⟨?_, (hMk i h).2⟩
              rcases (hMk i h).1 with z | z
              · exact .inl ((hMh i).2 (.inl z))
              · exact .inr (.inr (by omega))
            · exact ⟨.inl ((hMh i).2 (.inr h)), by omega⟩
          · rcases h with h | h
            · exact h
            · exact .inl ((hMh i).2 (.inl h))
          · rcases (hMk i hi).1 with z | z
            · exact (hMj i z).1
            · exact .inr (by omega)
          · rcases h with h | h
            · exact h
            · rcases (hMj i h).1 with z | z
              · exact z
              · omega
        have hq0 : (q0 == 0) = false := by simpa using hz
        simp only [hq0]
        gi_loopw [34] (fun i wr => ∃ k : Nat, k ≤ F.length ∧ i = .int .i64 k ∧ ∃ Mk, J (joinL pre right lo ro ++ ((F.take k).filter (hitB x lo ro)).map (x ++ ·)) Mk wr ∧ (∀ i, Mk i → (Mj i ∨ W5.heap.size ≤ i) ∧ i < wr.heap.size) ∧ Kpt Mj W5 wr)
          (fun i _ => F.length - (intOf i).toNat)
        case atStart => exact ⟨0, Nat.zero_le _, rfl, Mj, by simpa using hj5, fun i hi => ⟨.inl hi, by have := (hMj i hi).2; omega⟩, Kpt.refl _ _⟩
        case round =>
          obtain ⟨k, hk', rfl, Mk, hJk, hMk, hkp⟩ := hrel
          by_cases hlt : k < F.length
          · have hKr : Kpt Mc W2 wr := hKW5.trans hkp (fun i hi h => by
              rcases h with h | h
              · exact h
              · rcases (hMj i h).1 with z | z
                · exact z
                · omega)
            have hSr : Kd.S kRows tRow wr W.heap.size (fun k => M' k ∧ k ≠ W.heap.size + 1) (.slice Ag F.length cg) F := Kd.S_step hS (fun k hk2 hlt2 => hKr.block k hlt2 (fun h => by have := hMcW _ h; have := hMW _ hk2.1; omega))
            have hr := (Kd.S_reads' hSr).2.2
            have hmax := hr.2.1
            obtain ⟨ad, cs, rfl, _, hK, hcs⟩ := Kd.C_get hr [] k (by omega) (by omega)
            obtain ⟨Ao, co, rfl, hleo, hCo⟩ := hK
            have hx : F.getD (k : Int).toNat [] = F.getD k [] := rfl
            rw [hx] at hleo hCo hcs
            have hc0 := hcs 0 _ rfl
            have hsz : kRows.sz = 1 := rfl
            rw [hsz, Int.toNat_natCast, Nat.mul_one, Nat.add_zero] at hc0
            have hts := take_snoc' ([] : Row) F k hlt
            have hob1 : (F.getD k []).length ≤ 1048576 := hmF _ (by rw [List.getD_eq_getElem?_getD, List.getElem?_eq_getElem hlt]; exact List.getElem_mem hlt)
            generalize F.getD k [] = ob at *
            have hbr : Below w.heap.size w wr := hbwW2.trans (hKr.below hbwW2.size (fun i _ h => (hMc i h).1))
            have d2 : wr.cell? ⟨b2, 0, none⟩ = some (.int .i64 ro) := pw_cell_below hbr h2
            have hMk9 : ∀ i, Mk i → i ≠ W4.heap.size ∧ i ≠ W.heap.size := fun i h => by
              rcases (hMk i h).1 with z | z
              · have h1 := (hMj i z).2
                rcases (hMj i z).1 with z | z
                · have := hMcW _ z; omega
                · omega
              · omega
            have h9 := hkp.at hx9 (fun h => by have := (hMj _ h).2; omega)
            have h5 := hkp.at hx5' (fun h => by rcases (hMj _ h).1 with z | z; have := hMcW _ z; omega; omega)
            have hCx : kS.C wr Ad x.length x := by
              have hk3 : Kpt (fun i => w.heap.size ≤ i ∧ ¬ N i) A wr := (Kpt.of_new _ hb5).trans hkp (fun i hi h => by
                rcases h with h | h
                · exact h
                · refine ⟨?_, fun z => (hN i z).2.2 ((hMh i).2 (.inl h))⟩
                  rcases (hMj i h).1 with z | z
                  · exact (hMc i z).1
                  · omega)
              obtain ⟨Ad', c', e, _, h⟩ := hrL _ _ _ _ (hkL _ _ _ _ _ hrd hk3)
              have e2 : Value.slice Ad x.length c = .slice Ad' x.length c' := by simpa using e
              injection e2 with e2 _ _
              rw [e2]; exact h
            have hb := at_f ob ro
            have hh0 : hitB x lo ro ob = true ↔ cmpV ⟨q0, q1, q2, q3⟩ (toV (atS ob ro)) = 0 := by rw [hhit ob]; exact decide_eq_true_iff
            generalize atS ob ro = vb at hb hh0
            obtain ⟨p0, p1, p2, p3⟩ := vb
            have hh : hitB x lo ro ob = true ↔ cmpV ⟨q0, q1, q2, q3⟩ ⟨p0, p1, p2, p3⟩ = 0 := hh0
            simp only at hb
            clear hh0
            obtain ⟨z, hcv⟩ : ∃ z, cmpV ⟨q0, q1, q2, q3⟩ ⟨p0, p1, p2, p3⟩ = z := ⟨_, rfl⟩
            rw [hcv] at hh
            have e0 : wr.drew.cell? ⟨W4.heap.size, 0, none⟩ = some (.int .i64 q0) := blk_cell h9 0
            have e1 : wr.drew.cell? ⟨W4.heap.size, 1, none⟩ = some (.bool q1) := blk_cell h9 1
            have e2 : wr.drew.cell? ⟨W4.heap.size, 2, none⟩ = some (.int .i64 q2) := blk_cell h9 2
            have e3 : wr.drew.cell? ⟨W4.heap.size, 3, none⟩ = some (.string q3) := blk_cell h9 3
            have e5 : wr.drew.cell? ⟨W.heap.size, 0, none⟩ = some (.func (.yield l) #[] #[]) := blk_cell h5 0
            have keep : ∀ V, Kpt (fun i => wr.heap.size ≤ i) wr V → V.cell? ⟨W4.heap.size, 0, none⟩ = some (.int .i64 q0) ∧ V.cell? ⟨W4.heap.size, 1, none⟩ = some (.bool q1) ∧ V.cell? ⟨W4.heap.size, 2, none⟩ = some (.int .i64 q2) ∧ V.cell? ⟨W4.heap.size, 3, none⟩ = some (.string q3) ∧ V.cell? ⟨W.heap.size, 0, none⟩ = some (.func (.yield l) #[] #[]) ∧ V.cell? ⟨b2, 0, none⟩ = some (.int .i64 ro) := by
              intro V hV
              have g9 := hV.at h9 (by have := blk_lt h9; omega)
              have g5 := hV.at h5 (by have := blk_lt h5; omega)
              have hVr : Below wr.heap.size wr V := hV.below (Nat.le_refl _) (fun _ _ h => h)
              exact ⟨blk_cell g9 0, blk_cell g9 1, blk_cell g9 2, blk_cell g9 3, blk_cell g5 0, pw_cell_below (hbr.trans (hVr.mono hbr.size)) h2⟩
            by_cases hcmp : z = 0
            · subst hcmp
              gi_wp2
              refine wpIn_region_R 15 (S := fun V => V.cell? ⟨W4.heap.size, 0, none⟩ = some (.int .i64 q0) ∧ V.cell? ⟨W4.heap.size, 1, none⟩ = some (.bool q1) ∧ V.cell? ⟨W4.heap.size, 2, none⟩ = some (.int .i64 q2) ∧ V.cell? ⟨W4.heap.size, 3, none⟩ = some (.string q3) ∧ V.cell? ⟨W.heap.size, 0, none⟩ = some (.func (.yield l) #[] #[]) ∧ V.cell? ⟨b2, 0, none⟩ = some (.int .i64 ro)) (by kernel_rfl) ⟨e0, e1, e2, e3, e5, d2⟩ (fun hS0 => ?_)
              refine wpAnyR_take (i := 0) (oi := ⟨some 38, _, _, _, _, _⟩) (v := ?_) (by kernel_rfl) (by kernel_rfl) rfl (by kernel_rfl) (by kernel_rfl) (by kernel_rfl) (fun _ _ _ h => h) (Or.inl ⟨by rfl, ?_⟩) (by assumption) ?_
              rotate_left
              · intro w hSw; (try dsimp only at hSw); (try go_split_ands); go_simp; (try (with_reducible rfl))
              (try simp only [Act.put, List.setIfInBounds_toArray, List.set_cons_zero, List.set_cons_succ])
              refine wpAnyR_take (i := 1) (oi := ⟨some 39, _, _, _, _, _⟩) (v := ?_) (by kernel_rfl) (by kernel_rfl) rfl (by kernel_rfl) (by kernel_rfl) (by kernel_rfl) (fun _ _ _ h => h) (Or.inl ⟨by rfl, ?_⟩) (by assumption) ?_
              rotate_left
              · intro w hSw; (try dsimp only at hSw); (try go_split_ands); go_simp; (try (with_reducible rfl))
              (try simp only [Act.put, List.setIfInBounds_toArray, List.set_cons_zero, List.set_cons_succ])
              refine wpAnyR_take (i := 2) (oi := ⟨some 40, _, _, _, _, _⟩) (v := ?_) (by kernel_rfl) (by kernel_rfl) rfl (by kernel_rfl) (by kernel_rfl) (by kernel_rfl) (fun _ _ _ h => h) (Or.inl ⟨by rfl, ?_⟩) (by assumption) ?_
              rotate_left
              · intro w hSw; (try dsimp only at hSw); (try go_split_ands); go_simp; (try (with_reducible rfl))
              (try simp only [Act.put, List.setIfInBounds_toArray, List.set_cons_zero, List.set_cons_succ])
              refine wpAnyR_one (i := 3) (o := ⟨some 41, _, _, _, _, _⟩) (by kernel_rfl) (by kernel_rfl) rfl (fun K hK => ?_)
              go_simp
              refine (exec_at.calls Ao co ob ro _ _ _ _ wr.drew (Kd.C_drew hCo) hleo hb).mono ?_
              rintro e W6 ⟨rfl, hb6⟩
              have hb6' : Below wr.heap.size wr W6 := (below_drew (Below.refl _ wr)).trans hb6
              have hS6 := keep W6 (Kpt.of_below hb6')
              (try dsimp only)
              refine hK.out _ _ (.inr hS6) ?_
              clear hK K
              (try simp only [Act.put, List.setIfInBounds_toArray, List.set_cons_zero, List.set_cons_succ])
              refine wpAnyR_one (i := 4) (o := ⟨some 42, _, _, _, _, _⟩) (by kernel_rfl) (by kernel_rfl) rfl (fun K hK => ?_)
              go_simp
              refine (value_Compare.calls q0 q1 q2 q3 p0 p1 p2 p3 _ W6 (by rw [value_Compare.f, hcv])).mono ?_
              rintro e W7 ⟨rfl, hb7⟩
              have hb7' : Below wr.heap.size wr W7 := hb6'.trans (hb7.mono hb6'.size)
              have hS7 := keep W7 (Kpt.of_below hb7')
              (try dsimp only)
              refine hK.out _ _ (.inr hS7) ?_
              clear hK K
              (try simp only [Act.put, List.setIfInBounds_toArray, List.set_cons_zero, List.set_cons_succ])
              refine wpAnyR_take (i := 5) (oi := ⟨some 43, _, _, _, _, _⟩) (v := ?_) (by kernel_rfl) (by kernel_rfl) rfl (by kernel_rfl) (by kernel_rfl) (by kernel_rfl) (fun _ _ _ h => h) (Or.inl ⟨by rfl, ?_⟩) (by assumption) ?_
              rotate_left
              · intro w hSw; (try dsimp only at hSw); (try go_split_ands); go_simp; (try (with_reducible rfl))
              (try simp only [Act.put, List.setIfInBounds_toArray, List.set_cons_zero, List.set_cons_succ])
              refine wpAnyR_take (i := 6) (oi := ⟨some 44, _, _, _, _, _⟩) (v := ?_) (by kernel_rfl) (by kernel_rfl) rfl (by kernel_rfl) (by kernel_rfl) (by kernel_rfl) (fun _ _ _ h => h) (Or.inl ⟨by rfl, ?_⟩) (by assumption) ?_
              rotate_left
              · intro w hSw; (try dsimp only at hSw); (try go_split_ands); go_simp; (try (with_reducible rfl))
              (try simp only [Act.put, List.setIfInBounds_toArray, List.set_cons_zero, List.set_cons_succ])
              refine wpAnyR_take (i := 7) (oi := ⟨some 45, _, _, _, _, _⟩) (v := ?_) (by kernel_rfl) (by kernel_rfl) rfl (by kernel_rfl) (by kernel_rfl) (by kernel_rfl) (fun _ _ _ h => h) (Or.inl ⟨by rfl, ?_⟩) (by assumption) ?_
              rotate_left
              · intro w hSw; (try dsimp only at hSw); (try go_split_ands); go_simp; (try (with_reducible rfl))
              (try simp only [Act.put, List.setIfInBounds_toArray, List.set_cons_zero, List.set_cons_succ])
              refine wpAnyR_take (i := 8) (oi := ⟨some 46, _, _, _, _, _⟩) (v := ?_) (by kernel_rfl) (by kernel_rfl) rfl (by kernel_rfl) (by kernel_rfl) (by kernel_rfl) (fun _ _ _ h => h) (Or.inl ⟨by rfl, ?_⟩) (by assumption) ?_
              rotate_left
              · intro w hSw; (try dsimp only at hSw); (try go_split_ands); go_simp; (try (with_reducible rfl))
              (try simp only [Act.put, List.setIfInBounds_toArray, List.set_cons_zero, List.set_cons_succ])
              refine wpAnyR_take (i := 9) (oi := ⟨some 47, _, _, _, _, _⟩) (v := ?_) (by kernel_rfl) (by kernel_rfl) rfl (by kernel_rfl) (by kernel_rfl) (by kernel_rfl) (fun _ _ _ h => h) (Or.inl ⟨by rfl, ?_⟩) (by assumption) ?_
              rotate_left
              · intro w hSw; (try dsimp only at hSw); (try go_split_ands); go_simp; (try (with_reducible rfl))
              (try simp only [Act.put, List.setIfInBounds_toArray, List.set_cons_zero, List.set_cons_succ])
              refine wpAnyR_one (i := 10) (o := ⟨some 48, _, _, _, _, _⟩) (by kernel_rfl) (by kernel_rfl) rfl (fun K hK => ?_)
              go_simp
              obtain ⟨W8, hW8⟩ : ∃ W8, W7.alloc (.cells #[.slice Ad x.length c, .slice Ao ob.length co] 31) = W8 := ⟨_, rfl⟩
              rw [hW8]
              have hb8 : Below wr.heap.size wr W8 := by rw [← hW8]; exact below_alloc hb7' _
              have hx8 : W8.heap[W7.heap.size]? = some (.cells #[.slice Ad x.length c, .slice Ao ob.length co] 31 (0, 0)) := by rw [← hW8]; exact blk_new _ _
              clear hW8
              refine hK.out _ _ (.inr (keep W8 (Kpt.of_below hb8))) ?_
              clear hK K
              (try simp only [Act.put, List.setIfInBounds_toArray, List.set_cons_zero, List.set_cons_succ])
              refine wpAnyR_one (i := 11) (o := ⟨some 49, _, _, _, _, _⟩) (by kernel_rfl) (by kernel_rfl) rfl (fun K hK => ?_)
              go_simp
              refine (concat2 Ad x c Ao ob co W7.heap.size W8 hx8 (Kd.C_below hCx hb8) (Kd.C_below hCo hb8) (by omega)).mono ?_
              rintro e W10 ⟨v10, rfl, hR10, hb10⟩
              have hb10' : Below wr.heap.size wr W10 := hb8.trans (hb10.mono hb8.size)
              refine hK.out _ _ (.inr (keep W10 (Kpt.of_below hb10'))) ?_
              clear hK K
              (try simp only [Act.put, List.setIfInBounds_toArray, List.set_cons_zero, List.set_cons_succ])
              have hz10 : wr.heap.size ≤ W8.heap.size := hb8.size
              have hzwr : W5.heap.size ≤ wr.heap.size := hkp.size
              have hrd10 : RdNew w W10 (fun i => W8.heap.size ≤ i ∧ i < W10.heap.size) (x ++ ob) #[v10] :=
                ⟨v10, rfl, Kd.R_lower (Kd.R_mono (Kd.R_bound hR10) (fun i hi => ⟨hi.2.1, hi.2.2.1⟩)) (Nat.le_trans hbr.size hz10), fun i hi => hi.2⟩
              have hhit1 : hitB x lo ro ob = true := by simpa using hh
              have hpe : joinL pre right lo ro ++ ((F.take k).filter (hitB x lo ro)).map (x ++ ·) ++ [x ++ ob] = joinL pre right lo ro ++ ((F.take (k + 1)).filter (hitB x lo ro)).map (x ++ ·) := by
                rw [← hts, filter_snoc, if_pos hhit1, List.map_append, List.append_assoc]; rfl
              have hpp : joinL pre right lo ro ++ ((F.take (k + 1)).filter (hitB x lo ro)).map (x ++ ·) <+: joinL left right lo ro :=
                hjp _ (by rw [hjn]; exact ((List.take_prefix _ _).filter _).map _)
              obtain ⟨fn, tmps, assign, body, hy, hR⟩ := hY _ (x ++ ob) #[v10] (fun i => W8.heap.size ≤ i ∧ i < W10.heap.size) W10 Mk (hJ _ _ _ _ hJk (Kpt.of_new _ hb10')) (by rw [hpe]; exact hpp) hrd10
                (fun i hi => ⟨by rcases (hMk i hi).1 with h | h; rcases (hMj i h).1 with h | h; exact (hMc i h).1; omega; omega, Nat.lt_of_lt_of_le (hMk i hi).2 hb10'.size⟩)
                (fun i hi => ⟨by omega, hi.2, fun h => by have := (hMk i h).2; omega⟩) (by have := hb10'.size; omega)
              rw [hpe] at hR
              refine wpAnyR_oneIn (i := 12) (o := ⟨some 50, _, _, _, _, _⟩) (by kernel_rfl) rfl (fun K hK => ?_)
              rw [if_pos (by rfl)]
              refine ⟨fun _ _ => trivial, ?_⟩
              go_simp
              refine ⟨rfl, round_in _ (hR.mono ?_)⟩
              have hsz10 : W8.heap.size ≤ W10.heap.size := hb10.size
              have keepY : ∀ (M9 : Nat → Prop) (V : World), Kpt (fun i => Mk i ∨ (W8.heap.size ≤ i ∧ i < W10.heap.size)) W10 V → (∀ i, M9 i → (Mk i ∨ (W8.heap.size ≤ i ∧ i < W10.heap.size) ∨ W10.heap.size ≤ i) ∧ i < V.heap.size) →
                  (V.cell? ⟨W4.heap.size, 0, none⟩ = some (.int .i64 q0) ∧ V.cell? ⟨W4.heap.size, 1, none⟩ = some (.bool q1) ∧ V.cell? ⟨W4.heap.size, 2, none⟩ = some (.int .i64 q2) ∧ V.cell? ⟨W4.heap.size, 3, none⟩ = some (.string q3) ∧ V.cell? ⟨W.heap.size, 0, none⟩ = some (.func (.yield l) #[] #[]) ∧ V.cell? ⟨b2, 0, none⟩ = some (.int .i64 ro)) ∧
                  (∀ i, M9 i → (Mj i ∨ W5.heap.size ≤ i) ∧ i < V.heap.size) ∧ Kpt Mj W5 V := by
                intro M9 V hV hM9
                have hl9 := blk_lt h9
                have hl5 := blk_lt h5
                have hVr : Kpt Mk wr V := (Kpt.of_new Mk hb10').trans hV (fun i hi h => by
                  rcases h with h | h | h
                  · exact h
                  · exact h
                  · omega)
                have g9 := hVr.at h9 (fun h => (hMk9 _ h).1 rfl)
                have g5 := hVr.at h5 (fun h => (hMk9 _ h).2 rfl)
                have hVw : Below w.heap.size wr V := hVr.below hbr.size (fun i hi h => by
                  rcases (hMk i h).1 with z | z
                  · rcases (hMj i z).1 with z | z
                    · exact (hMc i z).1
                    · omega
                  · omega)
                refine ⟨⟨blk_cell g9 0, blk_cell g9 1, blk_cell g9 2, blk_cell g9 3, blk_cell g5 0, pw_cell_below (hbr.trans hVw) h2⟩, fun i hi => ⟨?_, (hM9 i hi).2⟩, hkp.trans hVr (fun i hi h => ?_)⟩
                · rcases (hM9 i hi).1 with h | h | h
                  · exact (hMk i h).1
                  · exact .inr (by omega)
                  · exact .inr (by omega)
                · rcases h with h | h
                  · exact h
                  · rcases (hMk i h).1 with z | z
                    · exact z
                    · omega
              rintro e W11 ⟨M9, hM9, hk9, (⟨rfl, hJ9⟩ | ⟨rfl, hJ9⟩)⟩
              · obtain ⟨hS11, hM11, hk11⟩ := keepY M9 W11 hk9 hM9
                refine hK.out _ _ (.inr hS11) ?_
                clear hK K
                (try simp only [Act.put, List.setIfInBounds_toArray, List.set_cons_zero, List.set_cons_succ])
                refine wpAnyR_take (i := 13) (oi := ⟨some 51, _, _, _, _, _⟩) (v := ?_) (by kernel_rfl) (by kernel_rfl) rfl (by kernel_rfl) (by kernel_rfl) (by kernel_rfl) (fun _ _ _ h => h) (Or.inl ⟨by rfl, ?_⟩) (by assumption) ?_
                rotate_left
                · intro w hSw; (try dsimp only at hSw); (try go_split_ands); go_simp; (try (with_reducible rfl))
                (try simp only [Act.put, List.setIfInBounds_toArray, List.set_cons_zero, List.set_cons_succ])
                refine wpAnyR_take (i := 14) (oi := ⟨some 52, _, _, _, _, _⟩) (v := ?_) (by kernel_rfl) (by kernel_rfl) rfl (by kernel_rfl) (by kernel_rfl) (by kernel_rfl) (fun _ _ _ h => h) (Or.inl ⟨by rfl, ?_⟩) (by assumption) ?_
                rotate_left
                · intro w hSw; (try dsimp only at hSw); (try go_split_ands); go_simp; (try (with_reducible rfl))
                (try simp only [Act.put, List.setIfInBounds_toArray, List.set_cons_zero, List.set_cons_succ])
                refine wpAnyR_done (by kernel_rfl) ?_ _
                gi_wp2
                go_roundw
                case rel => exact ⟨k + 1, by omega, by go_num, M9, hJ9, hM11, hk11⟩
                case measure => simp [intOf]; omega
              · obtain ⟨hS11, hM11, hk11⟩ := keepY M9 W11 hk9 hM9
                refine hK.out _ _ (.inr hS11) ?_
                clear hK K
                (try simp only [Act.put, List.setIfInBounds_toArray, List.set_cons_zero, List.set_cons_succ])
                refine wpAnyR_take (i := 13) (oi := ⟨some 51, _, _, _, _, _⟩) (v := ?_) (by kernel_rfl) (by kernel_rfl) rfl (by kernel_rfl) (by kernel_rfl) (by kernel_rfl) (fun _ _ _ h => h) (Or.inl ⟨by rfl, ?_⟩) (by assumption) ?_
                rotate_left
                · intro w hSw; (try dsimp only at hSw); (try go_split_ands); go_simp; (try (with_reducible rfl))
                (try simp only [Act.put, List.setIfInBounds_toArray, List.set_cons_zero, List.set_cons_succ])
                refine wpAnyR_take (i := 14) (oi := ⟨some 52, _, _, _, _, _⟩) (v := ?_) (by kernel_rfl) (by kernel_rfl) rfl (by kernel_rfl) (by kernel_rfl) (by kernel_rfl) (fun _ _ _ h => h) (Or.inl ⟨by rfl, ?_⟩) (by assumption) ?_
                rotate_left
                · intro w hSw; (try dsimp only at hSw); (try go_split_ands); go_simp; (try (with_reducible rfl))
                (try simp only [Act.put, List.setIfInBounds_toArray, List.set_cons_zero, List.set_cons_succ])
                refine wpAnyR_done (by kernel_rfl) ?_ _
                gi_wp2
                obtain ⟨M12, g1, g2, g3⟩ := fin Jx _ M9 W11 hJ9 hM11 hk11
                exact ⟨M12, g1, g2, rfl, _, hpp, g3⟩
            · gi_wp2
              refine wpIn_region_R 15 (S := fun V => V.cell? ⟨W4.heap.size, 0, none⟩ = some (.int .i64 q0) ∧ V.cell? ⟨W4.heap.size, 1, none⟩ = some (.bool q1) ∧ V.cell? ⟨W4.heap.size, 2, none⟩ = some (.int .i64 q2) ∧ V.cell? ⟨W4.heap.size, 3, none⟩ = some (.string q3) ∧ V.cell? ⟨W.heap.size, 0, none⟩ = some (.func (.yield l) #[] #[]) ∧ V.cell? ⟨b2, 0, none⟩ = some (.int .i64 ro)) (by kernel_rfl) ⟨e0, e1, e2, e3, e5, d2⟩ (fun hS0 => ?_)
              refine wpAnyR_take (i := 0) (oi := ⟨some 38, _, _, _, _, _⟩) (v := ?_) (by kernel_rfl) (by kernel_rfl) rfl (by kernel_rfl) (by kernel_rfl) (by kernel_rfl) (fun _ _ _ h => h) (Or.inl ⟨by rfl, ?_⟩) (by assumption) ?_
              rotate_left
              · intro w hSw; (try dsimp only at hSw); (try go_split_ands); go_simp; (try (with_reducible rfl))
              (try simp only [Act.put, List.setIfInBounds_toArray, List.set_cons_zero, List.set_cons_succ])
              refine wpAnyR_take (i := 1) (oi := ⟨some 39, _, _, _, _, _⟩) (v := ?_) (by kernel_rfl) (by kernel_rfl) rfl (by kernel_rfl) (by kernel_rfl) (by kernel_rfl) (fun _ _ _ h => h) (Or.inl ⟨by rfl, ?_⟩) (by assumption) ?_
              rotate_left
              · intro w hSw; (try dsimp only at hSw); (try go_split_ands); go_simp; (try (with_reducible rfl))
              (try simp only [Act.put, List.setIfInBounds_toArray, List.set_cons_zero, List.set_cons_succ])
              refine wpAnyR_take (i := 2) (oi := ⟨some 40, _, _, _, _, _⟩) (v := ?_) (by kernel_rfl) (by kernel_rfl) rfl (by kernel_rfl) (by kernel_rfl) (by kernel_rfl) (fun _ _ _ h => h) (Or.inl ⟨by rfl, ?_⟩) (by assumption) ?_
              rotate_left
              · intro w hSw; (try dsimp only at hSw); (try go_split_ands); go_simp; (try (with_reducible rfl))
              (try simp only [Act.put, List.setIfInBounds_toArray, List.set_cons_zero, List.set_cons_succ])
              refine wpAnyR_one (i := 3) (o := ⟨some 41, _, _, _, _, _⟩) (by kernel_rfl) (by kernel_rfl) rfl (fun K hK => ?_)
              go_simp
              refine (exec_at.calls Ao co ob ro _ _ _ _ wr.drew (Kd.C_drew hCo) hleo hb).mono ?_
              rintro e W6 ⟨rfl, hb6⟩
              have hb6' : Below wr.heap.size wr W6 := (below_drew (Below.refl _ wr)).trans hb6
              have hS6 := keep W6 (Kpt.of_below hb6')
              (try dsimp only)
              refine hK.out _ _ (.inr hS6) ?_
              clear hK K
              (try simp only [Act.put, List.setIfInBounds_toArray, List.set_cons_zero, List.set_cons_succ])
              refine wpAnyR_one (i := 4) (o := ⟨some 42, _, _, _, _, _⟩) (by kernel_rfl) (by kernel_rfl) rfl (fun K hK => ?_)
              go_simp
              refine (value_Compare.calls q0 q1 q2 q3 p0 p1 p2 p3 _ W6 (by rw [value_Compare.f, hcv])).mono ?_
              rintro e W7 ⟨rfl, hb7⟩
              have hb7' : Below wr.heap.size wr W7 := hb6'.trans (hb7.mono hb6'.size)
              have hS7 := keep W7 (Kpt.of_below hb7')
              (try dsimp only)
              refine hK.out _ _ (.inr hS7) ?_
              clear hK K
              (try simp only [Act.put, List.setIfInBounds_toArray, List.set_cons_zero, List.set_cons_succ])
              have hzf : (z == 0) = false := by simpa using hcmp
              have hzd : decide (z = 0) = false := by simpa using hcmp
              refine wpAnyR_take (i := 5) (oi := ⟨some 43, _, _, _, _, _⟩) (v := ?_) (by kernel_rfl) (by kernel_rfl) rfl (by kernel_rfl) (by kernel_rfl) (by kernel_rfl) (fun _ _ _ h => h) (Or.inl ⟨by rfl, ?_⟩) (by assumption) ?_
              rotate_left
              · intro w hSw; (try dsimp only at hSw); (try go_split_ands); go_simp; (try (with_reducible rfl))
              (try simp only [Act.put, List.setIfInBounds_toArray, List.set_cons_zero, List.set_cons_succ])
              (try simp only [hzf, hzd])
              refine wpAnyR_take (i := 6) (oi := ⟨some 44, _, _, _, _, _⟩) (v := ?_) (by kernel_rfl) (by kernel_rfl) rfl (by kernel_rfl) (by kernel_rfl) (by kernel_rfl) (fun _ _ _ h => h) (Or.inl ⟨by rfl, ?_⟩) (by assumption) ?_
              rotate_left
              · intro w hSw; (try dsimp only at hSw); (try go_split_ands); go_simp; (try (with_reducible rfl))
              (try simp only [Act.put, List.setIfInBounds_toArray, List.set_cons_zero, List.set_cons_succ])
              refine wpAnyR_take (i := 7) (oi := ⟨some 45, _, _, _, _, _⟩) (v := undef) (by kernel_rfl) (by kernel_rfl) rfl (by kernel_rfl) (by kernel_rfl) (by kernel_rfl) (fun _ _ _ h => h) (Or.inr ⟨by rfl, rfl⟩) (by assumption) ?_
              (try simp only [Act.put, List.setIfInBounds_toArray, List.set_cons_zero, List.set_cons_succ])
              refine wpAnyR_take (i := 8) (oi := ⟨some 46, _, _, _, _, _⟩) (v := undef) (by kernel_rfl) (by kernel_rfl) rfl (by kernel_rfl) (by kernel_rfl) (by kernel_rfl) (fun _ _ _ h => h) (Or.inr ⟨by rfl, rfl⟩) (by assumption) ?_
              (try simp only [Act.put, List.setIfInBounds_toArray, List.set_cons_zero, List.set_cons_succ])
              refine wpAnyR_take (i := 9) (oi := ⟨some 47, _, _, _, _, _⟩) (v := undef) (by kernel_rfl) (by kernel_rfl) rfl (by kernel_rfl) (by kernel_rfl) (by kernel_rfl) (fun _ _ _ h => h) (Or.inr ⟨by rfl, rfl⟩) (by assumption) ?_
              (try simp only [Act.put, List.setIfInBounds_toArray, List.set_cons_zero, List.set_cons_succ])
              refine wpAnyR_take (i := 10) (oi := ⟨some 48, _, _, _, _, _⟩) (v := undef) (by kernel_rfl) (by kernel_rfl) rfl (by kernel_rfl) (by kernel_rfl) (by kernel_rfl) (fun _ _ _ h => h) (Or.inr ⟨by rfl, rfl⟩) (by assumption) ?_
              (try simp only [Act.put, List.setIfInBounds_toArray, List.set_cons_zero, List.set_cons_succ])
              refine wpAnyR_take (i := 11) (oi := ⟨some 49, _, _, _, _, _⟩) (v := undef) (by kernel_rfl) (by kernel_rfl) rfl (by kernel_rfl) (by kernel_rfl) (by kernel_rfl) (fun _ _ _ h => h) (Or.inr ⟨by rfl, rfl⟩) (by assumption) ?_
              (try simp only [Act.put, List.setIfInBounds_toArray, List.set_cons_zero, List.set_cons_succ])
              refine wpAnyR_take (i := 12) (oi := ⟨some 50, _, _, _, _, _⟩) (v := undef) (by kernel_rfl) (by kernel_rfl) rfl (by kernel_rfl) (by kernel_rfl) (by kernel_rfl) (fun _ _ _ h => h) (Or.inr ⟨by rfl, rfl⟩) (by assumption) ?_
              (try simp only [Act.put, List.setIfInBounds_toArray, List.set_cons_zero, List.set_cons_succ])
              refine wpAnyR_take (i := 13) (oi := ⟨some 51, _, _, _, _, _⟩) (v := undef) (by kernel_rfl) (by kernel_rfl) rfl (by kernel_rfl) (by kernel_rfl) (by kernel_rfl) (fun _ _ _ h => h) (Or.inr ⟨by rfl, rfl⟩) (by assumption) ?_
              (try simp only [Act.put, List.setIfInBounds_toArray, List.set_cons_zero, List.set_cons_succ])
              refine wpAnyR_take (i := 14) (oi := ⟨some 52, _, _, _, _, _⟩) (v := ?_) (by kernel_rfl) (by kernel_rfl) rfl (by kernel_rfl) (by kernel_rfl) (by kernel_rfl) (fun _ _ _ h => h) (Or.inl ⟨by rfl, ?_⟩) (by assumption) ?_
              rotate_left
              · intro w hSw; (try dsimp only at hSw); (try go_split_ands); go_simp; (try (with_reducible rfl))
              (try simp only [Act.put, List.setIfInBounds_toArray, List.set_cons_zero, List.set_cons_succ])
              refine wpAnyR_done (by kernel_rfl) ?_ _
              gi_wp2
              go_roundw
              case rel =>
                have hno : ¬ (hitB x lo ro ob = true) := fun h => hcmp (hh.1 h)
                refine ⟨k + 1, by omega, by go_num, Mk, ?_, fun i hi => ⟨(hMk i hi).1, Nat.lt_of_lt_of_le (hMk i hi).2 hb7'.size⟩, hkp.trans (Kpt.of_new Mj hb7') (fun _ _ h => h.elim id id)⟩
                rw [← hts, filter_snoc, if_neg hno]
                exact hJ _ _ _ _ hJk (Kpt.of_new _ hb7')
              case measure => simp [intOf]; omega
          · obtain rfl : k = F.length := by omega
            gi_wp2
            rw [List.take_length, ← hjn] at hJk
            obtain ⟨M9, h91, h92, h93⟩ := fin J _ Mk wr hJk hMk hkp
            refine ⟨M9, h91, h92, ?_⟩
            show J2 J Mc W W2 (joinL (pre ++ [x]) right lo ro) M9 wr
            rw [hsn]
            exact h93
    case done2 =>
      intro D2 W3 M3 hI3 hk3 hM3 hD3 hDw3 hDM3
      gi_wp2
      simp only [Exit.noGoto]
      gi_wp2
      have hMcW : ∀ i, Mc i → i < W.heap.size := fun i h => (hMc i h).2
      have hDW : W.heap.size ≤ D := by omega
      have hD2 : D < W2.heap.size := (Array.getElem?_eq_some_iff.1 hD).1
      have hDk : (W3.putObj D2 (.deferred none)).heap[D]? = some (.deferred (some [])) := by
        obtain ⟨_, _, _, _, hk⟩ := hI3
        exact (Kpt.putObj W3 D2 _).at (hk.at hD (fun h => by have := hMcW D h; omega)) (by omega)
      refine ⟨by simp, .inl ⟨_, _, rfl, run_takeDeferred hD3, by simp, .inl ⟨_, _, rfl, run_takeDeferred hDk, ?_⟩⟩⟩
      obtain ⟨M4, h41, h42, h43⟩ := (hI3.put hJ hMcW hzW2 hDw3 hDM3 (o := .deferred none)).ends hJ hMcW hBW hDW (fun h => by omega) (o := .deferred none)
      exact ⟨_, results_none rfl _ _ _, ⟨_, rfl⟩, M4, h41, h42, .inl h43⟩
    case stop2 =>
      intro D2 c pre W3 M3 hpre hI3 hk3 hM3 hD3 hDw3 hDM3
      obtain ⟨rfl, y, hy, hI3⟩ := hI3
      gi_wp2
      simp only [Exit.noGoto]
      gi_wp2
      have hMcW : ∀ i, Mc i → i < W.heap.size := fun i h => (hMc i h).2
      have hDW : W.heap.size ≤ D := by omega
      have hD2 : D < W2.heap.size := (Array.getElem?_eq_some_iff.1 hD).1
      have hDk : (W3.putObj D2 (.deferred none)).heap[D]? = some (.deferred (some [])) := by
        obtain ⟨_, _, _, _, hk⟩ := hI3
        exact (Kpt.putObj W3 D2 _).at (hk.at hD (fun h => by have := hMcW D h; omega)) (by omega)
      refine ⟨by simp, .inl ⟨_, _, rfl, run_takeDeferred hD3, by simp, .inl ⟨_, _, rfl, run_takeDeferred hDk, ?_⟩⟩⟩
      obtain ⟨M4, h41, h42, h43⟩ := (hI3.put hJx hMcW hzW2 hDw3 hDM3 (o := .deferred none)).ends hJx hMcW hBW hDW (fun h => by omega) (o := .deferred none)
      exact ⟨_, results_none rfl _ _ _, ⟨_, rfl⟩, M4, h41, h42, .inr ⟨y, hy, h43⟩⟩
end Go.Proofs.YtghblnldokpceaaDoor.QV
/- hayloftref02.SameAll of rows and themselves; hayloftlaw15.copied tells the rows; hayloftref15.Join tells joinL. -/
namespace Go.Proofs.YtghblnldokpceaaDoor.QV
open Go.RowKit Go.Proofs.YtghblnldokpceaaDoorW.PrintWords Go.Proofs.YtghblnldokpceaaDoor.Op
set_option linter.unusedVariables false
set_option linter.unusedSimpArgs false
theorem same_row (a b : List S') (hm : a.length ≤ 9223372036854775807) : Ev (fun k => hayloftref02_SameRow.f k a b) (eqRow a b) := by
  unfold hayloftref02_SameRow.f
  by_cases h : a.length = b.length
  · simp only [if_pos (show (a.length : Int) = (b.length : Int) from by omega)]
    exact same_loop a b hm a.length 0 (by omega) h
  · simp only [if_neg (show ¬ (a.length : Int) = (b.length : Int) from by omega)]
    rw [eqRow_len h]
    exact Ev.now _
def eqRows : List Row → List Row → Bool
  | [], [] => true
  | x :: xs, y :: ys => eqRow x y && eqRows xs ys
  | _, _ => false
theorem eqRows_iff : ∀ {a b : List Row}, eqRows a b = true ↔ a = b
  | [], [] => by simp [eqRows]
  | [], _ :: _ => by simp [eqRows]
  | _ :: _, [] => by simp [eqRows]
  | x :: xs, y :: ys => by rw [eqRows, Bool.and_eq_true, eqRow_iff, eqRows_iff]; simp
theorem eqRows_len {a b : List Row} (h : a.length ≠ b.length) : eqRows a b = false := by
  rw [← Bool.not_eq_true, eqRows_iff]
  rintro rfl
  exact h rfl
theorem getD_mem {α : Type} (z : α) {a : List α} {i : Nat} (h : i < a.length) : a.getD i z ∈ a := by
  rw [List.getD_eq_getElem?_getD, List.getElem?_eq_getElem h]; exact List.getElem_mem h
theorem all_loop (a b : List Row) (hm : a.length ≤ 9223372036854775807) (hx : ∀ x ∈ a, x.length ≤ 9223372036854775807) : ∀ (d i : Nat), i + d = a.length → a.length = b.length → Ev (fun k => hayloftref02_SameAll.l0 k a b (i : Int)) (eqRows (a.drop i) (b.drop i)) := by
  intro d
  induction d with
  | zero =>
    intro i hi hl
    rw [List.drop_of_length_le (by omega), List.drop_of_length_le (by omega)]
    refine Ev.step (f := fun _ => some true) (fun k => ?_) (Ev.now _)
    simp only [hayloftref02_SameAll.l0]
    rw [if_neg (by omega)]
  | succ d ih =>
    intro i hi hl
    have hw : wrap64 ((i : Int) + 1) = ((i + 1 : Nat) : Int) := by unfold wrap64; omega
    have hra : rd_L4 a (i : Int) = a.getD i [] := rfl
    have hrb : rd_L4 b (i : Int) = b.getD i [] := rfl
    have hih := ih (i + 1) (by omega) hl
    have hxa := hx _ (getD_mem [] (show i < a.length by omega))
    rw [drop_get [] a i (by omega), drop_get [] b i (by omega), eqRows]
    generalize a.getD i [] = x at hra hxa
    generalize b.getD i [] = y at hrb
    have hsr := same_row x y hxa
    refine Ev.step (f := fun k => (hayloftref02_SameRow.f k x y).bind fun t => if t = true then hayloftref02_SameAll.l0 k a b ((i + 1 : Nat) : Int) else some false) (fun k => ?_) ?_
    · simp only [hayloftref02_SameAll.l0, hra, hrb, hw]
      rw [if_pos (by omega), if_pos (by omega), if_pos (by omega)]
    · refine hsr.bind ?_
      cases he : eqRow x y
      · rw [Bool.false_and]
        simp only [Bool.false_eq_true, if_false]
        exact Ev.now _
      · rw [Bool.true_and]
        simp only [if_true]
        exact hih
theorem same_all (a b : List Row) (hm : a.length ≤ 9223372036854775807) (hx : ∀ x ∈ a, x.length ≤ 9223372036854775807) : Ev (fun k => hayloftref02_SameAll.f k a b) (eqRows a b) := by
  unfold hayloftref02_SameAll.f
  by_cases h : a.length = b.length
  · simp only [if_pos (show (a.length : Int) = (b.length : Int) from by omega)]
    exact all_loop a b hm hx a.length 0 (by omega) h
  · simp only [if_neg (show ¬ (a.length : Int) = (b.length : Int) from by omega)]
    rw [eqRows_len h]
    exact Ev.now _
theorem same_self (a : List Row) (hm : a.length ≤ 9223372036854775807) (hx : ∀ x ∈ a, x.length ≤ 9223372036854775807) : ∃ k, hayloftref02_SameAll.f k a a = some true := by
  have h := same_all a a hm hx
  rw [eqRows_iff.2 rfl] at h
  exact h.rounds

theorem copied_loop (l : List Row) (hm : l.length ≤ 5864062014805) (hx : ∀ x ∈ l, x.length < 3518437208883) : ∀ (d i : Nat), i + d = l.length → Ev (fun k => hayloftlaw15_copied.l0 k l (l.take i) (l.length : Int) (i : Int)) l := by
  intro d
  induction d with
  | zero =>
    intro i hi
    refine Ev.step (f := fun _ => some l) (fun k => ?_) (Ev.now _)
    simp only [hayloftlaw15_copied.l0]
    rw [if_neg (by omega), List.take_of_length_le (by omega)]
  | succ d ih =>
    intro i hi
    have hw : wrap64 ((i : Int) + 1) = ((i + 1 : Nat) : Int) := by unfold wrap64; omega
    have hra : rd_L4 l (i : Int) = l.getD i [] := rfl
    have hts := take_snoc' ([] : Row) l i (by omega)
    have hxa := hx _ (getD_mem [] (show i < l.length by omega))
    refine Ev.step (fun k => ?_) (ih (i + 1) (by omega))
    simp only [hayloftlaw15_copied.l0, hra, hw, hayloftref02_Copy.f, Option.bind_some, List.nil_append, List.length_nil, Nat.zero_add]
    rw [if_pos (by omega), if_pos (by omega), if_pos (by omega), if_pos hxa, Option.bind_some, if_pos (by rw [List.length_take]; omega), hts]
theorem copied_f (l : List Row) (hm : l.length ≤ 5864062014805) (hx : ∀ x ∈ l, x.length < 3518437208883) : ∃ k, hayloftlaw15_copied.f k l = some l := by
  have h := copied_loop l hm hx l.length 0 (by omega)
  exact h.rounds

end Go.Proofs.YtghblnldokpceaaDoor.QV
/- slices.Values, exec.Join as functions; hayloftlaw15.twice over what an iterator gives. -/
namespace Go.Proofs.YtghblnldokpceaaDoor.QV
open Go.RowKit Go.Proofs.YtghblnldokpceaaDoorW.PrintWords Go.Proofs.YtghblnldokpceaaDoor.Seq Go.Shelf Go.Proofs.YtghblnldokpceaaDoor.Op
set_option linter.unusedVariables false
set_option linter.unusedSimpArgs false
attribute [local go_sem] Oper.semAt_some

theorem values_is (A : Option Addr) (xs : List Row) (c : Nat) (w : World) (hr : kRows.C w A xs.length xs) :
    Calls Tryd.prog 8 #[.slice A xs.length c] w fun e w' => ∃ v, e = .returned v ∧ IsSeq w' v xs ∧ Below w.heap.size w w' := by
  refine (values_any (.slice A xs.length c) ⟨_, _, _, rfl⟩ w).mono ?_
  rintro e w' ⟨rfl, hw'⟩
  have hb : Below w.heap.size w w' := by rw [hw']; exact below_alloc (Below.refl _ _) _
  refine ⟨_, rfl, ⟨_, _, RdOld w', rfl, fun args w => rfl, values_seq A xs c w.heap.size w' ?_ ?_ (Kd.C_below hr hb), fun A B N x vs h hk => h.kept hk, fun A N x vs h => ?_⟩, hb⟩
  · rw [hw']; simp
  · rw [hw']; exact blk_cell (blk_new _ _) 0
  · obtain ⟨_, hA, Ad, c, rfl, hle, hC⟩ := h
    exact ⟨Ad, c, rfl, hle, Kd.C_below hC hA⟩

/-- An iterator's value whose rows are its consumer's own. -/
def IsOwn (w : World) (sv : Value) (xs : List Row) : Prop := ∃ g lb, sv = .func (.func g) #[] lb ∧ (∀ args w, (callFunc g args).run Tryd.prog w = .ok (.enter g args) w) ∧ SeqOf Tryd.prog g lb (RdNew w) xs w
theorem IsOwn.seq {w : World} {sv : Value} {xs : List Row} (h : IsOwn w sv xs) : IsSeq w sv xs := by
  obtain ⟨g, lb, h1, h2, h3⟩ := h
  exact ⟨g, lb, RdNew w, h1, h2, h3, fun A B N x vs h hk => h.kept hk, fun A N x vs h => h.reads⟩

set_option maxHeartbeats 1000000 in
theorem join_is (left right : List Row) (lo ro : Int) (svL svR : Value) (w : World) (hL : IsSeq w svL left) (hR : IsSeq w svR right)
    (hbR : ∀ x ∈ right, x.length ≤ 1048576) (hbL : ∀ x ∈ left, x.length ≤ 1048576) (hnR : right.length ≤ 1048576) :
    Calls Tryd.prog 27 #[svL, svR, .int .i64 lo, .int .i64 ro] w fun e w' => ∃ v, e = .returned v ∧ IsOwn w' v (joinL left right lo ro) ∧ Below w.heap.size w w' := by
  have HL := Lib.hid hL
  have HR := Lib.hid hR
  obtain ⟨gL, lbL, RdL, rfl, qL⟩ := hL
  obtain ⟨gR, lbR, RdR, rfl, qR⟩ := hR
  have hL : IsSeq w (.func (.func gL) #[] lbL) left := ⟨gL, lbL, RdL, rfl, qL⟩
  have hR : IsSeq w (.func (.func gR) #[] lbR) right := ⟨gR, lbR, RdR, rfl, qR⟩
  clear qL qR HL HR
  go_enter Tryd.func27, Tryd.ntmps27
  go_wp2
  go_ret
  obtain ⟨w', hw'⟩ : ∃ w', (((w.alloc (.cells #[.func (.func gL) #[] lbL] 28)).alloc (.cells #[.func (.func gR) #[] lbR] 28)).alloc (.cells #[.int .i64 lo] 3)).alloc (.cells #[.int .i64 ro] 3) = w' := ⟨_, rfl⟩
  rw [hw']
  have hb : Below w.heap.size w w' := by rw [← hw']; exact below_alloc (below_alloc (below_alloc (below_alloc (Below.refl _ _) _) _) _) _
  have g0 : w'.heap[w.heap.size]? = some (.cells #[.func (.func gL) #[] lbL] 28 (0, 0)) := by rw [← hw']; exact blk_alloc (blk_alloc (blk_alloc (blk_new _ _) _) _) _
  have g1 : w'.heap[w.heap.size + 1]? = some (.cells #[.func (.func gR) #[] lbR] 28 (0, 0)) := by
    have := blk_new (w.alloc (.cells #[.func (.func gL) #[] lbL] 28)) (.cells #[.func (.func gR) #[] lbR] 28)
    rw [World.size_alloc] at this
    rw [← hw']; exact blk_alloc (blk_alloc this _) _
  have g2 : w'.heap[w.heap.size + 2]? = some (.cells #[.int .i64 lo] 3 (0, 0)) := by
    have := blk_new ((w.alloc (.cells #[.func (.func gL) #[] lbL] 28)).alloc (.cells #[.func (.func gR) #[] lbR] 28)) (.cells #[.int .i64 lo] 3)
    rw [World.size_alloc, World.size_alloc] at this
    rw [← hw']; exact blk_alloc this _
  have g3 : w'.heap[w.heap.size + 3]? = some (.cells #[.int .i64 ro] 3 (0, 0)) := by
    have := blk_new (((w.alloc (.cells #[.func (.func gL) #[] lbL] 28)).alloc (.cells #[.func (.func gR) #[] lbR] 28)).alloc (.cells #[.int .i64 lo] 3)) (.cells #[.int .i64 ro] 3)
    rw [World.size_alloc, World.size_alloc, World.size_alloc] at this
    rw [← hw']; exact this
  exact ⟨_, rfl, ⟨_, _, rfl, fun args w => rfl, join_seq left right lo ro (.func (.func gL) #[] lbL) (.func (.func gR) #[] lbR) _ _ _ _ w' (hL.later hb) (hR.later hb) (blk_cell g1 0) (blk_cell g3 0) (blk_cell g0 0) (blk_cell g2 0) hbR hbL hnR⟩, hb⟩
end Go.Proofs.YtghblnldokpceaaDoor.QV
/- (exec.group).told where a count is asked. -/
namespace Go.Proofs.YtghblnldokpceaaDoor.QV
open Go.RowKit Go.Proofs.YtghblnldokpceaaDoorW.PrintWords Go.Proofs.YtghblnldokpceaaDoor.Seq Go.Shelf Go.Proofs.YtghblnldokpceaaDoor.Op
set_option linter.unusedVariables false
set_option linter.unusedSimpArgs false

theorem int_any (n : Int) (w : World) : Calls Tryd.prog 54 #[.int .i64 n] w fun e w' => e = .returned (.agg #[.int .i64 2, .bool false, .int .i64 n, .string ⟨#[]⟩]) ∧ Below w.heap.size w w' := by
  go_enter Tryd.func54, Tryd.ntmps54
  go_wp2
  go_returns
  all_goals (first | exact ⟨rfl, below_alloc (Below.refl _ _) _⟩ | skip)

set_option maxRecDepth 100000 in
set_option maxHeartbeats 2000000 in
theorem told_count (KA : Option Addr) (kn kc : Nat) (RA : Option Addr) (xs : List Row) (rc : Nat) (col : Int) (w : World) (hr : kRows.C w RA xs.length xs) (hbd : xs.length * 40 ≤ 140737488355328) :
    Calls Tryd.prog 44 #[.agg #[.slice KA kn kc, .slice RA xs.length rc], .agg #[.int .i64 0, .int .i64 col]] w fun e w' => e = .returned (.agg #[.int .i64 2, .bool false, .int .i64 xs.length, .string ⟨#[]⟩]) ∧ Below w.heap.size w w' := by
  have hmax := hr.2.1
  go_enter Tryd.func44, Tryd.ntmps44
  go_wp2
  obtain ⟨w2, hw2⟩ : ∃ w2, ((w.alloc (.cells #[.slice KA kn kc, .slice RA xs.length rc] 63)).alloc (.cells #[.int .i64 0, .int .i64 col] 53)).alloc (.cells #[.int .i64 0, .bool false, .int .i64 0, .string ⟨#[]⟩] 43) = w2 := ⟨_, rfl⟩
  rw [hw2]
  have hbw : Below w.heap.size w w2 := by rw [← hw2]; exact below_alloc (below_alloc (below_alloc (Below.refl _ _) _) _) _
  have g2 : w2.heap[w.heap.size]? = some (.cells #[.slice KA kn kc, .slice RA xs.length rc] 63 (0, 0)) := by rw [← hw2]; exact blk_alloc (blk_alloc (blk_new _ _) _) _
  have g3 : w2.heap[w.heap.size + 1]? = some (.cells #[.int .i64 0, .int .i64 col] 53 (0, 0)) := by
    have := blk_new (w.alloc (.cells #[.slice KA kn kc, .slice RA xs.length rc] 63)) (.cells #[.int .i64 0, .int .i64 col] 53)
    rw [World.size_alloc] at this
    rw [← hw2]; exact blk_alloc this _
  have g4 : w2.heap[w.heap.size + 1 + 1]? = some (.cells #[.int .i64 0, .bool false, .int .i64 0, .string ⟨#[]⟩] 43 (0, 0)) := by
    have := blk_new ((w.alloc (.cells #[.slice KA kn kc, .slice RA xs.length rc] 63)).alloc (.cells #[.int .i64 0, .int .i64 col] 53)) (.cells #[.int .i64 0, .bool false, .int .i64 0, .string ⟨#[]⟩] 43)
    rw [World.size_alloc, World.size_alloc] at this
    rw [← hw2]; exact this
  clear hw2
  go_loopw [5, 15] (fun l i wr => ∃ k : Nat, k ≤ xs.length ∧ i = .int .i64 k ∧ (∃ lst : Row, lst.length ≤ k ∧ kS.R tS wr w2.heap.size (fun _ => True) l lst) ∧ Below w2.heap.size w2 wr) (fun _ i _ => xs.length - (intOf i).toNat)
  case atStart => exact ⟨0, Nat.zero_le _, rfl, ⟨[], Nat.le_refl _, Kd.R_nil _ _ _ _ _⟩, Below.refl _ _⟩
  case round =>
    obtain ⟨k, hk, rfl, ⟨lst, hll, hl⟩, hB⟩ := hrel
    by_cases hlt : k < xs.length
    · have hr2 := Kd.C_below hr (hbw.trans (hB.mono hbw.size))
      obtain ⟨ad, cs, rfl, _, hK, hcs⟩ := Kd.C_get hr2 [] k (by omega) (by omega)
      obtain ⟨Ao, co, rfl, hleo, hCo⟩ := hK
      have hx : xs.getD (k : Int).toNat [] = xs.getD k [] := rfl
      rw [hx] at hleo hCo hcs
      have hc0 := hcs 0 _ rfl
      have hsz : kRows.sz = 1 := rfl
      rw [hsz, Int.toNat_natCast, Nat.mul_one, Nat.add_zero] at hc0
      generalize xs.getD k [] = x at *
      have ha := at_f x col
      generalize (atS x col).f0 = q0, (atS x col).f1 = q1, (atS x col).f2 = q2, (atS x col).f3 = q3 at ha
      have h31 := blk_cell (blk_below g3 hB) 1
      go_wp2_with fail
      refine (exec_at.calls Ao co x col _ _ _ _ wr hCo hleo ha).mono ?_
      rintro e W4 ⟨rfl, hb4⟩
      have hB4 : Below w2.heap.size w2 W4 := hB.trans (hb4.mono hB.size)
      have h30 := blk_cell (blk_alloc (blk_below g3 hB4) (.cells #[.int .i64 q0, .bool q1, .int .i64 q2, .string q3] 43)) 0
      have hl4 := Kd.R_below hl hb4
      by_cases hz : q0 = 0
      · subst hz
        go_wp2_with fail
        go_roundw
        case rel => exact ⟨k + 1, by omega, by go_num, ⟨lst, by omega, Kd.R_alloc hl4 _⟩, below_alloc hB4 _⟩
        case measure => simp [intOf]; omega
      · go_wp2_with (at_builtin; refine Kd.R_append kS (w0 := w2) w2.heap.size rfl (.tmp 36) (.tmp 38) 31 43 _ 40 rfl Tryd.underlying31 infoS rfl (by decide) (by decide) _ lst ⟨q0, q1, q2, q3⟩ [.int .i64 q0, .bool q1, .int .i64 q2, .string q3] (fun _ => True) (fun _ => False) rfl (slice_alloc _ _ _ _) (k43_mkM _ _ _ _) (fun _ h => h.elim) (fun _ _ => trivial) (Kd.R_alloc hl4 _) (below_alloc hB4 _) (by have := hB4.size; simp; omega) (by omega) ?_; intro v1 w1 hv1 hB1 hg1 hat1)
        go_roundw
        case rel => exact ⟨k + 1, by omega, by go_num, ⟨_, by simp; omega, hv1⟩, hB1⟩
        case measure => simp [intOf]; omega
    · obtain rfl : k = xs.length := by omega
      have h30 := blk_cell (blk_below g3 hB) 0
      have h21 := blk_cell (blk_below g2 hB) 1
      go_wp2_with fail
      refine (int_any _ _).mono ?_
      rintro e W5 ⟨rfl, hb5⟩
      have hB5 : Below w2.heap.size w2 W5 := hB.trans (hb5.mono hB.size)
      have hx4 := blk_below g4 hB5
      have n0 := blk_cell hx4 0
      have n1 := blk_cell hx4 1
      have n2 := blk_cell hx4 2
      have n3 := blk_cell hx4 3
      have m0 := blk_frozen hx4 0
      have m1 := blk_frozen hx4 1
      have m2 := blk_frozen hx4 2
      have m3 := blk_frozen hx4 3
      go_wp2_with fail
      refine bodyPost_ret (results_cell_row rfl _ _ (w.heap.size + 1 + 1) 43 #[.int .i64 2, .bool false, .int .i64 xs.length, .string ⟨#[]⟩] (0, 0) _ rfl (by have := blk_set (blk_set (blk_set (blk_set hx4 0 (.int .i64 2)) 1 (.bool false)) 2 (.int .i64 xs.length)) 3 (.string ⟨#[]⟩); simpa using this) Tryd.underlying43 rfl rfl) rfl ?_
      refine ⟨rfl, hbw.trans ((hB5.mono hbw.size).trans ?_)⟩
      have hk : ∀ (V : World) (j : Nat) (u : Value), Kpt (fun i => i = w.heap.size + 1 + 1) V (V.setCell ⟨w.heap.size + 1 + 1, j, none⟩ u) := fun V j u => Kpt.setCell V ⟨w.heap.size + 1 + 1, j, none⟩ u
      exact ((((hk _ _ _).trans (hk _ _ _) (fun _ _ h => h.elim id id)).trans (hk _ _ _) (fun _ _ h => h.elim id id)).trans (hk _ _ _) (fun _ _ h => h.elim id id)).below (by have := hbw.size; have := hB5.size; omega) (fun i _ e => by omega)
end Go.Proofs.YtghblnldokpceaaDoor.QV
/- The search for a group, of one group without a key. -/
namespace Go.Proofs.YtghblnldokpceaaDoor.QV
open Go.RowKit Go.Proofs.YtghblnldokpceaaDoorW.PrintWords Go.Proofs.YtghblnldokpceaaDoor.Seq Go.Shelf Go.Proofs.YtghblnldokpceaaDoor.Op
set_option linter.unusedVariables false
set_option linter.unusedSimpArgs false

theorem cmpG_any (KA : Option Addr) (key : Row) (kc : Nat) (RA : Option Addr) (rn rc : Nat) (B : Option Addr) (k : Row) (bc : Nat) (w : World) (hk : kS.C w KA key.length key) (hkc : key.length ≤ kc) (hb : kS.C w B k.length k) (hbc : k.length ≤ bc) :
    Calls Tryd.prog 41 #[.agg #[.slice KA key.length kc, .slice RA rn rc], .slice B k.length bc] w fun e w' => e = .returned (.int .i64 (rowsV (key.map toV) (k.map toV))) ∧ Below w.heap.size w w' := by
  go_enter Tryd.func41, Tryd.ntmps41
  go_wp2_with fail
  refine (value_Rows.calls KA kc key B bc k _ _ (Kd.C_alloc hk _) hkc (Kd.C_alloc hb _) hbc rfl).mono ?_
  rintro e w1 ⟨rfl, hb1⟩
  go_wp2_with fail
  go_ret
  exact ⟨rfl, (below_alloc (Below.refl _ _) _).trans (hb1.mono (by simp))⟩

theorem search_one (g cap : Nat) (RA : Option Addr) (rn rc : Nat) (B : Option Addr) (bc : Nat) (w : World) (h0 : w.cell? ⟨g, 0, none⟩ = some (.slice none 0 0)) (h1 : w.cell? ⟨g, 1, none⟩ = some (.slice RA rn rc)) (hB : kS.C w B 0 []) :
    Calls Tryd.prog 40 #[.slice (some ⟨g, 0, none⟩) 1 cap, .slice B 0 bc, .func (.func 41) #[] #[]] w fun e w' => e = .returned (.tuple #[.int .i64 0, .bool true]) ∧ Below w.heap.size w w' := by
  go_enter Tryd.func40, Tryd.ntmps40
  go_wp2_with fail
  go_loopw [9, 10] (fun i j wr => i = .int .i64 0 ∧ (∃ m : Nat, m ≤ 1 ∧ j = .int .i64 m) ∧ Below w.heap.size w wr) (fun _ j _ => (intOf j).toNat)
  case atStart => exact ⟨rfl, ⟨1, by omega, rfl⟩, Below.refl _ _⟩
  case round =>
    obtain ⟨rfl, ⟨m, hm, rfl⟩, hBw⟩ := hrel
    have h0' := pw_cell_below hBw h0
    have h1' := pw_cell_below hBw h1
    rcases (by omega : m = 0 ∨ m = 1) with rfl | rfl
    · go_wp2_with fail
      refine (cmpG_any none [] 0 RA rn rc B [] bc _ (by simp [Kd.C, ReadsRow]) (by simp) (Kd.C_below hB hBw) (by simp)).mono ?_
      rintro e w1 ⟨rfl, hb1⟩
      go_wp2_with fail
      go_ret2
      exact ⟨rfl, hBw.trans (hb1.mono hBw.size)⟩
    · go_wp2_with fail
      refine (cmpG_any none [] 0 RA rn rc B [] bc _ (by simp [Kd.C, ReadsRow]) (by simp) (Kd.C_below hB hBw) (by simp)).mono ?_
      rintro e w1 ⟨rfl, hb1⟩
      have hr0 : rowsV (([] : Row).map toV) (([] : Row).map toV) = 0 := by simp [rowsV]
      rw [hr0]
      go_wp2_with fail
      go_roundw
      case rel => exact ⟨rfl, ⟨0, by omega, by go_num⟩, hBw.trans (hb1.mono hBw.size)⟩
      case measure => simp [intOf]
end Go.Proofs.YtghblnldokpceaaDoor.QV
/- exec.Group of one row without a key, where the rows are to be counted. -/
namespace Go.Proofs.YtghblnldokpceaaDoor.QV
open Go.RowKit Go.Proofs.YtghblnldokpceaaDoorW.PrintWords Go.Proofs.YtghblnldokpceaaDoor.Seq Go.Shelf Go.Proofs.YtghblnldokpceaaDoor.Op
set_option linter.unusedVariables false
set_option linter.unusedSimpArgs false
attribute [local go_sem] Oper.semAt_some

/-- Between two rounds: one group, of the rows so far. -/
def GrpI (W : World) (cap : Nat) (pre : List Row) (M : Nat → Prop) (A : World) : Prop :=
  M W.heap.size ∧ M (W.heap.size + 1 + 1) ∧ A.heap[W.heap.size]? = some (.cells #[.slice (some ⟨W.heap.size + 1 + 1, 0, none⟩) 1 cap] 61 (0, 0)) ∧
    (∃ cs rv, A.heap[W.heap.size + 1 + 1]? = some (.cells cs 63 (0, 0)) ∧ cs[0]? = some (.slice none 0 0) ∧ cs[1]? = some rv ∧ Kd.S kRows tRow A W.heap.size (fun k => M k ∧ k ≠ W.heap.size ∧ k ≠ W.heap.size + 1 + 1) rv pre) ∧ (∀ i, M i → W.heap.size ≤ i) ∧ Below W.heap.size W A
theorem GrpI.kept {W : World} {cap : Nat} {pre : List Row} {M : Nat → Prop} {A B : World} {q : Nat → Prop} (h : GrpI W cap pre M A) (hq : ∀ i, q i → W.heap.size ≤ i) (hk : Kpt (fun i => q i ∧ ¬ M i) A B) : GrpI W cap pre M B := by
  obtain ⟨h1, h2, h3, ⟨cs, rv, h4, h5, h6, h7⟩, h8, h9⟩ := h
  exact ⟨h1, h2, hk.at h3 (fun h => h.2 h1), ⟨cs, rv, hk.at h4 (fun h => h.2 h2), h5, h6, Kd.S_step h7 (fun k hk' hlt => hk.block k hlt (fun h => h.2 hk'.1))⟩, h8, h9.trans (hk.below h9.size (fun i _ h => hq i h.1))⟩
theorem C_nil (w : World) : kS.C w none 0 [] := by simp [Kd.C, ReadsRow]
theorem clone_nil (w : World) : Calls Tryd.prog 20 #[.slice none 0 0] w fun e w' => e = .returned (.slice none 0 0) ∧ w' = w := by
  have hn := Lib.run_eql_slice_nil (P := Tryd.prog)
  go_enter Tryd.func20, Tryd.ntmps20
  go_wp2
  go_ret
  exact ⟨rfl, rfl⟩

def one1 : Row := [⟨2, false, 1, ⟨#[]⟩⟩]

set_option maxRecDepth 100000 in
set_option maxHeartbeats 4000000 in
theorem group_seq1 (row : Row) (sv : Value) (b1 b2 b3 ga ca : Nat) (w : World) (hR : IsSeq w sv [row])
    (h1 : w.cell? ⟨b1, 0, none⟩ = some (.slice none 0 0)) (h2 : w.cell? ⟨b2, 0, none⟩ = some sv) (h3 : w.cell? ⟨b3, 0, none⟩ = some (.slice (some ⟨ga, 0, none⟩) 1 ca)) (h4 : w.cell? ⟨ga, 0, none⟩ = some (.int .i64 0)) (h5 : w.cell? ⟨ga, 1, none⟩ = some (.int .i64 0))
    (hb : row.length ≤ 1048576) :
    SeqOf Tryd.prog 39 #[.pointer (some ⟨b1, 0, none⟩), .pointer (some ⟨b2, 0, none⟩), .pointer (some ⟨b3, 0, none⟩)] (RdNew w) [one1] w := by
  intro l J Jx W Mc hW hMc hJ hJx hY h0
  have hzw : w.heap.size ≤ W.heap.size := hW.size
  obtain ⟨gR, lbR, RdR, rfl, egR, hsR, hkR, hrR⟩ := hR
  refine (callsIn_wide (n := 0)).1 (callsIn_of_wp_marks Tryd.func39 rfl trivial ?_ rfl)
  simp only [Tryd.ntmps39, List.size_toArray, List.length_cons, List.length_nil, Nat.reduceAdd, Nat.reduceSub, Array.replicate_succ, Array.replicate_zero, List.push_toArray, List.append_toArray, List.nil_append, List.cons_append]
  have hbWa : Below W.heap.size W (W.alloc (.cells #[.slice none 0 0] 61)) := below_alloc (Below.refl _ _) _
  have d1 : (W.alloc (.cells #[.slice none 0 0] 61)).cell? ⟨b1, 0, none⟩ = some (.slice none 0 0) := pw_cell_below (hW.trans (hbWa.mono hzw)) h1
  obtain ⟨cap, hcap⟩ : ∃ cap, (Question.appendCap 1 0 63).cut (W.tape W.drawn (Question.appendCap 1 0 63)) = cap := ⟨_, rfl⟩
  obtain ⟨cs0, hcs0⟩ : ∃ cs0 : Array Value, #[Value.slice none 0 0, Value.slice none 0 0] ++ Builtin.zeroCells #[Value.slice none 0 0, Value.slice none 0 0] (cap - 1) = cs0 := ⟨_, rfl⟩
  obtain ⟨W1, hW1⟩ : ∃ W1, (((W.alloc (.cells #[.slice (some ⟨W.heap.size + 1 + 1, 0, none⟩) 1 cap] 61)).alloc (.cells #[.slice none 0 0, .slice none 0 0] 63)).alloc (.cells cs0 63)).drew = W1 := ⟨_, rfl⟩
  have hbW1 : Below W.heap.size W W1 := by rw [← hW1]; exact below_drew (below_alloc (below_alloc (below_alloc (Below.refl _ _) _) _) _)
  have hszW1 : W1.heap.size = W.heap.size + 3 := by rw [← hW1]; simp
  have hx5 : W1.heap[W.heap.size]? = some (.cells #[.slice (some ⟨W.heap.size + 1 + 1, 0, none⟩) 1 cap] 61 (0, 0)) := by rw [← hW1]; exact blk_drew (blk_alloc (blk_alloc (blk_new _ _) _) _)
  have hxg : W1.heap[W.heap.size + 1 + 1]? = some (.cells cs0 63 (0, 0)) := by
    have := blk_new ((W.alloc (.cells #[.slice (some ⟨W.heap.size + 1 + 1, 0, none⟩) 1 cap] 61)).alloc (.cells #[.slice none 0 0, .slice none 0 0] 63)) (.cells cs0 63)
    rw [World.size_alloc, World.size_alloc] at this
    rw [← hW1]; exact blk_drew this
  have k0 : cs0[0]? = some (.slice none 0 0) := by rw [← hcs0, Array.getElem?_append_left (by simp)]; rfl
  have k1 : cs0[1]? = some (.slice none 0 0) := by rw [← hcs0, Array.getElem?_append_left (by simp)]; rfl
  have d2 : W1.cell? ⟨b2, 0, none⟩ = some (.func (.func gR) #[] lbR) := pw_cell_below (hW.trans (hbW1.mono hzw)) h2
  gi_wp2
  clear hW1 hcs0 hcap d1
  refine wpIn_range (gf := gR) (lb := lbR) rfl egR hsR (hW.trans (hbW1.mono hzw)) (fun A N x vs h => by obtain ⟨Ad, c, rfl, _⟩ := hrR _ _ _ _ h; rfl) hkR
    (GrpI W cap) (fun _ _ _ _ => False) (fun pre M A B h hk => h.kept (fun i h => by omega) hk) (fun _ _ _ _ _ h _ => h)
    (fun i => i = W.heap.size ∨ i = W.heap.size + 1 + 1) ?hM ?h0 (fun x vs a₁ M A => ∃ v, vs = #[v] ∧ a₁ = { tmps := #[.func (.yield l) #[] #[], .pointer (some ⟨b1, 0, none⟩), .pointer (some ⟨b2, 0, none⟩), .pointer (some ⟨b3, 0, none⟩), undef, .pointer (some ⟨W.heap.size, 0, none⟩), v, undef, undef, undef, undef, undef, undef, undef, undef, .slice none 0 0, .int .i64 0, .bool true, .slice none 0 0, .agg #[.slice none 0 0, .slice none 0 0], .slice (some ⟨W.heap.size + 1, 0, none⟩) 1 1, .slice (some ⟨W.heap.size + 1 + 1, 0, none⟩) 1 cap, .func (.func gR) #[] lbR, v] ++ Array.replicate 57 undef, defers := [] })
    (fun _ _ _ _ _ _ h _ => h) ?assign ?body ?done ?stop
  case hM => intro i hi; omega
  case h0 => exact ⟨.inl rfl, .inr rfl, hx5, ⟨cs0, _, hxg, k0, k1, Kd.S_nil _ _ _ _ _⟩, fun i hi => by omega, hbW1⟩
  case stop =>
    intro D c pre W M' hpre h
    exact h.elim
  case assign =>
    intro l2 pre x vs N A M hI hpre hrd hM hN
    obtain ⟨Ad, c, rfl, hle, hC⟩ := hrR _ _ _ _ hrd
    gi_wp2
    refine ⟨M, fun i hi => ⟨.inl hi, (hM i hi).2⟩, Kpt.refl _ _, hI, _, rfl, ?_⟩
    simp only [List.size_toArray, List.length_cons, List.length_nil, Nat.reduceAdd, Nat.reduceSub, Array.replicate_succ, Array.replicate_zero, List.push_toArray, List.append_toArray, List.nil_append, List.cons_append]
  case body =>
    intro l2 pre x vs N A M a₁ hI hpre hrd hax hM hN
    obtain ⟨v, rfl, rfl⟩ := hax
    simp only [List.size_toArray, List.length_cons, List.length_nil, Nat.reduceAdd, Nat.reduceSub, Array.replicate_succ, Array.replicate_zero, List.push_toArray, List.append_toArray, List.nil_append, List.cons_append]
    have hpl : pre = [] ∧ x = row := by
      obtain ⟨t, ht⟩ := hpre
      cases pre with
      | nil => simp at ht; exact ⟨rfl, ht.1⟩
      | cons a b => simp at ht
    obtain ⟨rfl, rfl⟩ := hpl
    obtain ⟨hMB, hMG, hbx, ⟨cs, rv, hbg, c0, c1, hS⟩, hMW, hBW⟩ := hI
    obtain ⟨Ad, c, hvv, hle, hC⟩ := hrR _ _ _ _ hrd
    obtain rfl : v = .slice Ad x.length c := by simpa using hvv
    clear hvv
    obtain ⟨RA, rc, rfl⟩ := Kd.S_slice hS
    have d1 : A.cell? ⟨b1, 0, none⟩ = some (.slice none 0 0) := pw_cell_below (hW.trans (hBW.mono hzw)) h1
    have hzA : W.heap.size + 1 + 1 < A.heap.size := blk_lt hbg
    gi_wp2
    refine ⟨trivial, rfl, calls_in _ _ ((exec_picked.calls 1 Ad c x none 0 [] [] A hC hle (by simp [Kd.C, ReadsRow]) (by simp) (by simp [exec_picked.f, exec_picked.l0])).mono ?_)⟩
    rintro e W2 ⟨vk, rfl, hk, hb2⟩
    obtain ⟨KB, kc, rfl, hkle, hkC⟩ := Kd.R_reads hk
    simp only [List.length_nil] at hkC hkle ⊢
    have hbx2 := blk_below hbx hb2
    have hbg2 := blk_below hbg hb2
    have e5 : W2.cell? ⟨W.heap.size, 0, none⟩ = some (.slice (some ⟨W.heap.size + 1 + 1, 0, none⟩) 1 cap) := blk_cell hbx2 0
    have g0 : W2.cell? ⟨W.heap.size + 1 + 1, 0, none⟩ = some (.slice none 0 0) := (blk_cell hbg2 0).trans c0
    have g1 : W2.cell? ⟨W.heap.size + 1 + 1, 1, none⟩ = some (.slice RA 0 rc) := (blk_cell hbg2 1).trans c1
    gi_wp2
    refine ⟨trivial, rfl, calls_in _ _ ((search_one (W.heap.size + 1 + 1) cap RA 0 rc KB kc W2 g0 g1 hkC).mono ?_)⟩
    rintro e W3 ⟨rfl, hb3⟩
    have hb3A : Below A.heap.size A W3 := hb2.trans (hb3.mono hb2.size)
    have hbx3 := blk_below hbx hb3A
    have hbg3 := blk_below hbg hb3A
    gi_wp2
    have S0 : ∀ V : World, Below A.heap.size A V → V.cell? ⟨W.heap.size, 0, none⟩ = some (.slice (some ⟨W.heap.size + 1 + 1, 0, none⟩) 1 cap) ∧ V.cell? ⟨W.heap.size + 1 + 1, 1, none⟩ = some (.slice RA 0 rc) ∧ V.frozen? ⟨W.heap.size + 1 + 1, 1, none⟩ = false :=
      fun V hV => ⟨blk_cell (blk_below hbx hV) 0, (blk_cell (blk_below hbg hV) 1).trans c1, blk_frozen (blk_below hbg hV) 1⟩
    refine wpIn_region_R 13 (S := fun V => V.cell? ⟨W.heap.size, 0, none⟩ = some (.slice (some ⟨W.heap.size + 1 + 1, 0, none⟩) 1 cap) ∧ V.cell? ⟨W.heap.size + 1 + 1, 1, none⟩ = some (.slice RA 0 rc) ∧ V.frozen? ⟨W.heap.size + 1 + 1, 1, none⟩ = false) (by kernel_rfl) (S0 _ (hb3A.trans ((below_drew (Below.refl _ _)).mono hb3A.size))) (fun hS0 => ?_)
    refine wpAnyR_take (i := 0) (oi := ⟨some 41, _, _, _, _, _⟩) (v := ?_) (by kernel_rfl) (by kernel_rfl) rfl (by kernel_rfl) (by kernel_rfl) (by kernel_rfl) (fun _ _ _ h => h) (Or.inl ⟨by rfl, ?_⟩) (by assumption) ?_
    rotate_left
    · intro w hSw; (try dsimp only at hSw); (try go_split_ands); go_simp; (try (with_reducible rfl))
    (try simp only [Act.put, List.setIfInBounds_toArray, List.set_cons_zero, List.set_cons_succ])
    refine wpAnyR_take (i := 1) (oi := ⟨some 42, _, _, _, _, _⟩) (v := ?_) (by kernel_rfl) (by kernel_rfl) rfl (by kernel_rfl) (by kernel_rfl) (by kernel_rfl) (fun _ _ _ h => h) (Or.inl ⟨by rfl, ?_⟩) (by assumption) ?_
    rotate_left
    · intro w hSw; (try dsimp only at hSw); (try go_split_ands); go_simp; (try (with_reducible rfl))
    (try simp only [Act.put, List.setIfInBounds_toArray, List.set_cons_zero, List.set_cons_succ])
    refine wpAnyR_take (i := 2) (oi := ⟨some 43, _, _, _, _, _⟩) (v := ?_) (by kernel_rfl) (by kernel_rfl) rfl (by kernel_rfl) (by kernel_rfl) (by kernel_rfl) (fun _ _ _ h => h) (Or.inl ⟨by rfl, ?_⟩) (by assumption) ?_
    rotate_left
    · intro w hSw; (try dsimp only at hSw); (try go_split_ands); go_simp; (try (with_reducible rfl))
    (try simp only [Act.put, List.setIfInBounds_toArray, List.set_cons_zero, List.set_cons_succ])
    refine wpAnyR_take (i := 3) (oi := ⟨some 44, _, _, _, _, _⟩) (v := ?_) (by kernel_rfl) (by kernel_rfl) rfl (by kernel_rfl) (by kernel_rfl) (by kernel_rfl) (fun _ _ _ h => h) (Or.inl ⟨by rfl, ?_⟩) (by assumption) ?_
    rotate_left
    · intro w hSw; (try dsimp only at hSw); (try go_split_ands); go_simp; (try (with_reducible rfl))
    (try simp only [Act.put, List.setIfInBounds_toArray, List.set_cons_zero, List.set_cons_succ])
    refine wpAnyR_take (i := 4) (oi := ⟨some 45, _, _, _, _, _⟩) (v := ?_) (by kernel_rfl) (by kernel_rfl) rfl (by kernel_rfl) (by kernel_rfl) (by kernel_rfl) (fun _ _ _ h => h) (Or.inl ⟨by rfl, ?_⟩) (by assumption) ?_
    rotate_left
    · intro w hSw; (try dsimp only at hSw); (try go_split_ands); go_simp; (try (with_reducible rfl))
    (try simp only [Act.put, List.setIfInBounds_toArray, List.set_cons_zero, List.set_cons_succ])
    refine wpAnyR_take (i := 5) (oi := ⟨some 46, _, _, _, _, _⟩) (v := ?_) (by kernel_rfl) (by kernel_rfl) rfl (by kernel_rfl) (by kernel_rfl) (by kernel_rfl) (fun _ _ _ h => h) (Or.inl ⟨by rfl, ?_⟩) (by assumption) ?_
    rotate_left
    · intro w hSw; (try dsimp only at hSw); (try go_split_ands); go_simp; (try (with_reducible rfl))
    (try simp only [Act.put, List.setIfInBounds_toArray, List.set_cons_zero, List.set_cons_succ])
    refine wpAnyR_take (i := 6) (oi := ⟨some 47, _, _, _, _, _⟩) (v := ?_) (by kernel_rfl) (by kernel_rfl) rfl (by kernel_rfl) (by kernel_rfl) (by kernel_rfl) (fun _ _ _ h => h) (Or.inl ⟨by rfl, ?_⟩) (by assumption) ?_
    rotate_left
    · intro w hSw; (try dsimp only at hSw); (try go_split_ands); go_simp; (try (with_reducible rfl))
    (try simp only [Act.put, List.setIfInBounds_toArray, List.set_cons_zero, List.set_cons_succ])
    refine wpAnyR_take (i := 7) (oi := ⟨some 48, _, _, _, _, _⟩) (v := ?_) (by kernel_rfl) (by kernel_rfl) rfl (by kernel_rfl) (by kernel_rfl) (by kernel_rfl) (fun _ _ _ h => h) (Or.inl ⟨by rfl, ?_⟩) (by assumption) ?_
    rotate_left
    · intro w hSw; (try dsimp only at hSw); (try go_split_ands); go_simp; (try (with_reducible rfl))
    (try simp only [Act.put, List.setIfInBounds_toArray, List.set_cons_zero, List.set_cons_succ])
    refine wpAnyR_one (i := 8) (o := ⟨some 49, _, _, _, _, _⟩) (by kernel_rfl) (by kernel_rfl) rfl (fun K hK => ?_)
    go_simp
    refine (clone_any Ad x c W3.drew (Kd.C_below (Kd.C_below hC hb3A) (below_drew (Below.refl _ _))) hle (by omega)).mono ?_
    rintro e W4 ⟨v1, rfl, hR1, hb4⟩
    have hb4A : Below A.heap.size A W4 := hb3A.trans (((below_drew (Below.refl _ W3)).trans hb4).mono hb3A.size)
    (try dsimp only)
    refine hK.out _ _ (.inr (S0 _ hb4A)) ?_
    clear hK K
    (try simp only [Act.put, List.setIfInBounds_toArray, List.set_cons_zero, List.set_cons_succ])
    obtain ⟨A1, a1c, rfl, hle1, hC1⟩ := Kd.R_reads hR1
    refine wpAnyR_one (i := 9) (o := ⟨some 50, _, _, _, _, _⟩) (by kernel_rfl) (by kernel_rfl) rfl (fun K hK => ?_)
    go_simp
    refine hK.out _ _ (.inr (S0 _ (below_alloc hb4A _))) ?_
    clear hK K
    (try simp only [Act.put, List.setIfInBounds_toArray, List.set_cons_zero, List.set_cons_succ])
    refine wpAnyR_one (i := 10) (o := ⟨some 51, _, _, _, _, _⟩) (by kernel_rfl) (by kernel_rfl) rfl (fun K hK => ?_)
    have hzA4 : A.heap.size ≤ W4.heap.size := hb4A.size
    have hzA3 : A.heap.size ≤ W3.heap.size := hb3A.size
    refine Kd.S_append_step kRows (w0 := A) W.heap.size (by rfl) (.tmp 47) (.tmp 50) 22 31 _ 24 rfl Tryd.underlying22 infoRow rfl (by decide) (by decide) (.slice RA 0 rc) [] x [.slice A1 x.length a1c]
      (fun k => (M k ∧ k ≠ W.heap.size ∧ k ≠ W.heap.size + 1 + 1) ∨ A.heap.size ≤ k) (fun k => (Value.slice A1 x.length a1c).ownBlock = some k) rfl rfl ⟨_, rfl, RS_ok (Kd.R_lower hR1 (by show W.heap.size ≤ W3.heap.size; omega)) (fun _ h => h)⟩ ?_ (fun k hk => .inr (by omega)) ?_ (hb4A.mono (by omega)) (by omega) (by decide) ?_
    · intro k hk
      have := Kd.R_base hR1 k hk
      exact ⟨.inr (Nat.le_trans hzA3 this), fun e => by have h2 := Kd.S_lt hS k e.symm; exact absurd this (by show ¬ W3.heap.size ≤ k; omega)⟩
    · refine Kd.S_mono (Kd.S_below (Kd.S_bound hS) hb4A) (fun k hk => ⟨.inl hk.1, fun h => ?_⟩)
      have := Kd.R_base hR1 k h
      exact absurd this (by show ¬ W3.heap.size ≤ k; have := hk.2.2.1; omega)
    intro v2 W5 hS2 hB2 hg2 hat2
    obtain ⟨g2, cap2, rfl, hg2b, hg2l, cells2, hcells2⟩ := Kd.S_form hS2 (by simp)
    simp only [List.nil_append, List.length_cons, List.length_nil, Nat.zero_add] at hS2 ⊢
    have hbx5 := blk_grown (blk_below hbx hb4A) hg2 (Kd.S_away hS (fun k hk => hk.2.1))
    have hbg5 := blk_grown (blk_below hbg hb4A) hg2 (Kd.S_away hS (fun k hk => hk.2.2))
    refine hK.out _ _ (.inr ⟨blk_cell hbx5 0, (blk_cell hbg5 1).trans c1, blk_frozen hbg5 1⟩) ?_
    clear hK K
    (try simp only [Act.put, List.setIfInBounds_toArray, List.set_cons_zero, List.set_cons_succ])
    have hS05 : W5.cell? ⟨W.heap.size, 0, none⟩ = some (.slice (some ⟨W.heap.size + 1 + 1, 0, none⟩) 1 cap) ∧ W5.cell? ⟨W.heap.size + 1 + 1, 1, none⟩ = some (.slice RA 0 rc) ∧ W5.frozen? ⟨W.heap.size + 1 + 1, 1, none⟩ = false := ⟨blk_cell hbx5 0, (blk_cell hbg5 1).trans c1, blk_frozen hbg5 1⟩
    refine wpAnyR_one (i := 11) (o := ⟨some 52, _, _, _, _, _⟩) (by kernel_rfl) (by kernel_rfl) rfl (fun K hK => ?_)
    go_simp
    refine hK.out _ _ (.inr hS05) ?_
    clear hK K
    (try simp only [Act.put, List.setIfInBounds_toArray, List.set_cons_zero, List.set_cons_succ])
    refine wpAnyR_one (i := 12) (o := ⟨some 53, _, _, _, _, _⟩) (by kernel_rfl) (by kernel_rfl) rfl (fun K hK => ?_)
    go_simp
    refine hK.out _ _ (.inr hS05) ?_
    clear hK K
    (try simp only [Act.put, List.setIfInBounds_toArray, List.set_cons_zero, List.set_cons_succ])
    have hcg : W5.cell? ⟨W.heap.size + 1 + 1, 1, none⟩ = some (.slice RA 0 rc) := hS05.2.1
    have hfg : W5.frozen? ⟨W.heap.size + 1 + 1, 1, none⟩ = false := hS05.2.2
    refine wpAnyR_one (i := 13) (o := ⟨none, _, _, _, _, _⟩) (by kernel_rfl) (by kernel_rfl) rfl (fun K hK => ?_)
    go_simp
    refine hK.out _ _ (.inl rfl) ?_
    clear hK K
    (try simp only [Act.put, List.setIfInBounds_toArray, List.set_cons_zero, List.set_cons_succ])
    refine wpAnyR_done (by kernel_rfl) ?_ _
    gi_wp2
    have hzA5 : W4.heap.size ≤ W5.heap.size := hg2.size
    obtain ⟨W6, hW6⟩ : ∃ W6, W5.setCell ⟨W.heap.size + 1 + 1, 1, none⟩ (.slice (some ⟨g2, 0, none⟩) 1 cap2) = W6 := ⟨_, rfl⟩
    rw [hW6]
    have hk6 : Kpt (fun i => i = W.heap.size + 1 + 1) W5 W6 := by rw [← hW6]; exact Kpt.setCell W5 ⟨W.heap.size + 1 + 1, 1, none⟩ _
    have hbx6 := hk6.at hbx5 (by omega)
    have hbg6 : W6.heap[W.heap.size + 1 + 1]? = some (.cells (cs.setIfInBounds 1 (.slice (some ⟨g2, 0, none⟩) 1 cap2)) 63 (0, 0)) := by rw [← hW6]; exact blk_set hbg5 1 _
    have hS6 : Kd.S kRows tRow W6 W.heap.size (fun k => ((M k ∧ k ≠ W.heap.size ∧ k ≠ W.heap.size + 1 + 1) ∨ A.heap.size ≤ k) ∧ k < W6.heap.size) (.slice (some ⟨g2, 0, none⟩) 1 cap2) [x] := by
      have h3 : Kd.S kRows tRow W6 W.heap.size (fun k => (M k ∧ k ≠ W.heap.size ∧ k ≠ W.heap.size + 1 + 1) ∨ A.heap.size ≤ k) (.slice (some ⟨g2, 0, none⟩) 1 cap2) [x] := by
        rw [← hW6]
        exact Kd.S_far (p := ⟨W.heap.size + 1 + 1, 1, none⟩) hS2 (fun k hk => by rcases hk with hk | hk; exact hk.2.2; show k ≠ W.heap.size + 1 + 1; omega) _
      exact Kd.S_mono (Kd.S_bound h3) (fun k hk => ⟨hk.1, hk.2.2.1⟩)
    have hKA6 : Kpt M A W6 := by
      refine ((Kpt.of_new M hb4A).trans (Kpt.grown hg2) (M := M) (fun i hi h => ?_)).trans hk6 (fun i hi h => ?_)
      · rcases h with h | h
        · exact h
        · exact ((Kd.S_R hS).1 i h.symm).1
      · rcases h with h | h
        · exact h
        · rw [h]; exact hMG
    have hz6 := hKA6.size
    have hcs1 : 1 < cs.size := by
      rcases Nat.lt_or_ge 1 cs.size with h | h
      · exact h
      · rw [Array.getElem?_eq_none h] at c1; cases c1
    refine ⟨fun i => (M i ∨ A.heap.size ≤ i) ∧ i < W6.heap.size, fun i hi => ⟨by rcases hi.1 with h | h; exact .inl h; exact .inr (.inr h), hi.2⟩, hKA6.mono (fun _ _ h => .inl h), ⟨.inl hMB, by omega⟩, ⟨.inl hMG, by omega⟩, hbx6, ⟨cs.setIfInBounds 1 (.slice (some ⟨g2, 0, none⟩) 1 cap2), .slice (some ⟨g2, 0, none⟩) 1 cap2, hbg6, ?_, ?_, ?_⟩, fun i hi => by rcases hi.1 with h | h; exact hMW i h; omega, hBW.trans (hKA6.below hBW.size (fun i _ h => hMW i h))⟩
    · rw [Array.getElem?_setIfInBounds_ne (by omega)]; exact c0
    · rw [Array.getElem?_setIfInBounds_self_of_lt hcs1]
    · refine Kd.S_mono hS6 (fun k hk' => ?_)
      have hlt' := hk'.2
      rcases hk'.1 with h | h
      · exact ⟨⟨.inl h.1, by omega⟩, h.2.1, h.2.2⟩
      · exact ⟨⟨.inr h, by omega⟩, by omega, by omega⟩
  case done =>
    intro D W2 M' hI hk hM' hD hDw hDM
    obtain ⟨hMB, hMG, hbx, ⟨cs, rv, hbg, c0, c1, hS⟩, hMW, hBW⟩ := hI
    obtain ⟨RA, rc, rfl⟩ := Kd.S_slice hS
    simp only [List.length_cons, List.length_nil, Nat.zero_add] at c1 hS
    have hr := (Kd.S_reads' hS).2.2
    have e5 : W2.cell? ⟨W.heap.size, 0, none⟩ = some (.slice (some ⟨W.heap.size + 1 + 1, 0, none⟩) 1 cap) := blk_cell hbx 0
    have hbwW2 : Below w.heap.size w W2 := hW.trans (hBW.mono hzw)
    have hMcW : ∀ i, Mc i → i < W.heap.size := fun i h => (hMc i h).2
    have hzW2 := hBW.size
    gi_wp2
    gi_loopw [56] (fun i wr => (i = .int .i64 0 ∧ wr = W2) ∨ (i = .int .i64 1 ∧ ∃ M9, J [one1] M9 wr ∧ (∀ i, M9 i → (Mc i ∨ W2.heap.size ≤ i) ∧ i < wr.heap.size) ∧ Kpt Mc W2 wr)) (fun i _ => 1 - (intOf i).toNat)
    case atStart => exact .inl ⟨rfl, rfl⟩
    case round =>
      rcases hrel with ⟨rfl, hwr⟩ | ⟨rfl, M9, hJ9, hM9, hk9⟩
      · obtain rfl := hwr.symm
        have g0 : W2.cell? ⟨W.heap.size + 1 + 1, 0, none⟩ = some (.slice none 0 0) := (blk_cell hbg 0).trans c0
        have g1 : W2.cell? ⟨W.heap.size + 1 + 1, 1, none⟩ = some (.slice RA 1 rc) := (blk_cell hbg 1).trans c1
        gi_wp2
        refine ⟨trivial, rfl, callsIn_wide.2 ((clone_nil _).mono ?_)⟩
        rintro e W3 ⟨rfl, rfl⟩
        have hb3 : Below W2.heap.size W2 (W2.alloc (.cells #[.slice none 0 0, .slice RA 1 rc] 63)) := below_alloc (Below.refl _ _) _
        have d3 : (W2.alloc (.cells #[.slice none 0 0, .slice RA 1 rc] 63)).cell? ⟨b3, 0, none⟩ = some (.slice (some ⟨ga, 0, none⟩) 1 ca) := pw_cell_below (hbwW2.trans (hb3.mono hbwW2.size)) h3
        gi_wp2
        obtain ⟨W3, hW3⟩ : ∃ W3, W2.alloc (.cells #[.slice none 0 0, .slice RA 1 rc] 63) = W3 := ⟨_, rfl⟩
        rw [hW3] at d3 hb3 ⊢
        have hsz3 : W3.heap.size = W2.heap.size + 1 := by rw [← hW3]; simp
        have hx11 : W3.heap[W2.heap.size]? = some (.cells #[.slice none 0 0, .slice RA 1 rc] 63 (0, 0)) := by rw [← hW3]; exact blk_new _ _
        clear hW3
        have hbw3 : Below w.heap.size w W3 := hbwW2.trans (hb3.mono hbwW2.size)
        gi_loopw [12, 65] (fun out i V => (out = .slice none 0 0 ∧ i = .int .i64 0 ∧ V = W3) ∨ (i = .int .i64 1 ∧ kS.R tS V W3.heap.size (fun _ => True) out one1 ∧ Below W3.heap.size W3 V)) (fun _ i _ => 1 - (intOf i).toNat)
        case atStart => exact .inl ⟨rfl, rfl, rfl⟩
        case round =>
          rcases hrel with ⟨rfl, rfl, hwr⟩ | ⟨rfl, hRo, hBo⟩
          · obtain rfl := hwr.symm
            refine wpIn_wide.2 ?_
            have a0 := pw_cell_below hbw3 h4
            have a1 := pw_cell_below hbw3 h5
            have f0 := blk_cell (blk_alloc hx11 (.cells #[.int .i64 0, .int .i64 0] 53)) 0
            have f1 := blk_cell (blk_alloc hx11 (.cells #[.int .i64 0, .int .i64 0] 53)) 1
            go_wp2_with fail
            refine (told_count none 0 0 RA [row] rc 0 _ (Kd.C_alloc (Kd.C_below hr hb3) _) (by simp)).mono ?_
            rintro e W5 ⟨rfl, hb5⟩
            have hb5' : Below W3.heap.size W3 W5 := (below_alloc (Below.refl _ _) _).trans (hb5.mono (by simp))
            have h1l : (([row] : List Row).length : Int) = 1 := rfl
            rw [h1l]
            go_wp2_with (at_builtin; refine Kd.R_append kS (w0 := W3) W3.heap.size rfl (.tmp 69) (.tmp 73) 31 43 _ 40 rfl Tryd.underlying31 infoS rfl (by decide) (by decide) (.slice none 0 0) [] ⟨2, false, 1, ⟨#[]⟩⟩ [.int .i64 2, .bool false, .int .i64 1, .string ⟨#[]⟩] (fun _ => True) (fun _ => False) rfl rfl (k43_mkM _ _ _ _) (fun _ h => h.elim) (fun _ _ => trivial) (Kd.R_nil _ _ _ _ _) hb5' (by have := hb5'.size; omega) (by decide) ?_; intro v1 w1 hv1 hB1 hg1 hat1)
            go_roundw
            case rel => exact .inr ⟨by go_num, hv1, hB1⟩
            case measure => simp [intOf]
          · have hcl : [] ++ [one1] <+: [one1] := by simp
            have hbo2 : Below W2.heap.size W2 wr := hb3.trans (hBo.mono hb3.size)
            have hszo := hBo.size
            obtain ⟨fn, tmps, assign, body, hy, hR9⟩ := hY [] one1 #[u12] (fun i => W3.heap.size ≤ i ∧ i < wr.heap.size) wr Mc (hJ _ _ _ _ h0 (Kpt.of_new _ (hBW.trans (hbo2.mono hBW.size)))) hcl
              ⟨_, rfl, Kd.R_lower (Kd.R_mono (Kd.R_bound hRo) (fun i hi => ⟨hi.2.1, hi.2.2.1⟩)) (by have := hbwW2.size; omega), fun i hi => hi.2⟩
              (fun i hi => ⟨(hMc i hi).1, by have := hMcW i hi; omega⟩) (fun i hi => ⟨by omega, hi.2, fun h => by have := hMcW i h; omega⟩) (by omega)
            gi_wp2
            refine ⟨rfl, hR9.mono ?_⟩
            rintro e W9 ⟨M9, hM9, hk9, hor⟩
            have hMM : ∀ i, M9 i → (Mc i ∨ W2.heap.size ≤ i) ∧ i < W9.heap.size := fun i hi => ⟨by rcases (hM9 i hi).1 with h | h | h; exact .inl h; exact .inr (by omega); exact .inr (by omega), (hM9 i hi).2⟩
            have hKK : Kpt Mc W2 W9 := (Kpt.of_new Mc hbo2).trans hk9 (fun i hi h => by
              rcases h with h | h | h
              · exact h
              · exact h
              · omega)
            rcases hor with ⟨rfl, hJ9⟩ | ⟨rfl, hJ9⟩
            · gi_wp2
              go_roundw
              case rel => exact .inr ⟨by go_num, M9, hJ9, hMM, hKK⟩
              case measure => simp [intOf]
            · gi_wp2
              have hDW : W.heap.size ≤ D := by omega
              have hD2 : D < W2.heap.size := (Array.getElem?_eq_some_iff.1 hD).1
              have hDk : W9.heap[D]? = some (.deferred (some [])) := hKK.at hD (fun h => by have := hMcW D h; omega)
              refine ⟨by simp, .inl ⟨_, _, rfl, run_takeDeferred hDk, ?_⟩⟩
              obtain ⟨M4, h41, h42, h43⟩ := J2.ends (o := .deferred none) hJx hMcW hBW (⟨M9, hJ9, fun i => Iff.rfl, hMM, hKK⟩ : J2 Jx Mc W W2 [one1] (fun i => M9 i ∨ (W.heap.size ≤ i ∧ i < W2.heap.size)) W9) hDW (fun h => by omega)
              exact ⟨_, results_none rfl _ _ _, ⟨_, rfl⟩, M4, h41, h42, .inr ⟨_, hcl, h43⟩⟩
      · gi_wp2
        have hDW : W.heap.size ≤ D := by omega
        have hD2 : D < W2.heap.size := (Array.getElem?_eq_some_iff.1 hD).1
        have hDk : wr.heap[D]? = some (.deferred (some [])) := hk9.at hD (fun h => by have := hMcW D h; omega)
        refine ⟨by simp, .inl ⟨_, _, rfl, run_takeDeferred hDk, ?_⟩⟩
        obtain ⟨M4, h41, h42, h43⟩ := J2.ends (o := .deferred none) hJ hMcW hBW (⟨M9, hJ9, fun i => Iff.rfl, hM9, hk9⟩ : J2 J Mc W W2 [one1] (fun i => M9 i ∨ (W.heap.size ≤ i ∧ i < W2.heap.size)) wr) hDW (fun h => by omega)
        exact ⟨_, results_none rfl _ _ _, ⟨_, rfl⟩, M4, h41, h42, .inl h43⟩
end Go.Proofs.YtghblnldokpceaaDoor.QV
/- XRound outside a round (printed from XRound): one condition S on the world for the whole region; what yields its value in every world that meets S is taken first. -/
namespace Go.Proofs.YtghblnldokpceaaDoor.SeqW
open Go Go.RowKit
set_option linter.unusedVariables false

abbrev Rn (l : Nat) : Fence := Fence.wide
theorem calls_in (l n : Nat) {P : Program} {f : FuncId} {args : Array Value} {w : World} {R : Ending → World → Prop} (h : Calls P f args w R) : CallsIn (Rn l) n P f args w R :=
  callsIn_wide.2 h
theorem rows_in (l n : Nat) {P : Program} {row : String} {args : Array Value} {w : World} {R : Value → World → Prop} (h : Rows P row args w R) : RowsIn (Rn l) n P row args w R := by
  intro c cs _
  obtain ⟨v, w', r, s⟩ := h c cs
  exact ⟨v, w', r, stepsIn_wide.2 s⟩
/-- An operation that is no deferred call, carried out in a round, goes as anywhere. -/
theorem op_in (l n : Nat) {P : Program} {o : Oper} {a : Act} {w : World} {K : Act → World → Prop} {Q : Exit → Act → World → Prop} (hnd : ∀ c, o.op ≠ .defer c) (h : o.wp P a w K Q) : o.wpIn (Rn l) n P a w K Q := by
  refine ⟨fun _ _ => trivial, ?_⟩
  unfold Oper.wp at h
  rw [show (Rn l).round = none from rfl, Oper.semAt_none]
  generalize (execOp a.eval o).run P w = r at h
  cases r with
  | ok x w' =>
    cases x <;> simp only [Oper.upon, Oper.uponIn] at h ⊢
    case value v => exact h
    case skip => exact h
    case defer d => exact h
    case enter f args => exact ⟨(fun h => by cases h), calls_in l _ h⟩
    case row row args => exact ⟨(fun h => by cases h), rows_in l _ h⟩
  | halt x w' => cases x <;> simp only [Oper.upon, Oper.uponIn] at h ⊢; exact h

section
variable {l : Nat} {P : Program} {ops : Array Oper} {Q : Exit → Act → World → Prop} {S : World → Prop} {d : Nat}
def noDefer (ops : Array Oper) : Bool := ops.toList.all fun o => match o.op with | .defer _ => false | _ => true
theorem noDefer_spec (h : noDefer ops = true) (j : Nat) (o : Oper) (ho : ops[j]? = some o) : ∀ c, o.op ≠ .defer c := by
  intro c e
  have hm : o ∈ ops.toList := by
    have := Array.mem_of_getElem? ho
    simpa using this
  have := List.all_eq_true.1 h o hm
  rw [e] at this
  simp at this

/-- Number d waits for number i. -/
def waitsOn (ops : Array Oper) (d i : Nat) : Bool := match ops[d]? with
  | some o => o.after.toList.any (fun e => Region.binds .any e && e.on == i)
  | none => true
/-- S is to hold behind each operation but number d. -/
def wpAnyR (l : Nat) (P : Program) (ops : Array Oper) (Q : Exit → Act → World → Prop) (S : World → Prop) (d : Nat) : Nat → Array Bool → Act → World → Prop
  | 0, listed, a, w => Region.ready .any ops listed = [] ∧ Q .normal a w
  | fuel + 1, listed, a, w => (Region.ready .any ops listed = [] → Q .normal a w) ∧
    ∀ i ∈ Region.ready .any ops listed, wpOpIn (Rn l) 0 P ops Q i (fun a' w' => (i = d ∨ S w') ∧ wpAnyR l P ops Q S d fuel (listed.setIfInBounds i true) a' w') a w
theorem wpAnyIn_of_R : ∀ (fuel : Nat) (listed : Array Bool) (a : Act) (w : World), wpAnyR l P ops Q S d fuel listed a w → wpAnyIn (Rn l) 0 P .any ops Q fuel listed a w
  | 0, _, _, _, h => h
  | fuel + 1, _, _, _, h => ⟨h.1, fun i hi => wpOpIn_mono (fun a' w' h' => wpAnyIn_of_R fuel _ a' w' h'.2) (h.2 i hi)⟩
theorem YieldsIf.wpOpR {i : Nat} {o : Oper} {v : Value} {a : Act} (hnd : noDefer ops = true) (hi : ops[i]? = some o) (hy : YieldsIf P ops S o v a) {K : Act → World → Prop} {w : World} (hS : S w) (h : K (a.put o.dst v) w) : wpOpIn (Rn l) 0 P ops Q i K a w := by
  unfold Go.wpOpIn
  simp only [hi]
  rcases hy with ⟨hw, hv⟩ | ⟨hw, rfl⟩
  · simp only [hw, if_true]
    exact op_in l 0 (noDefer_spec hnd i o hi) (by simp only [Oper.wp, hv w hS, Oper.upon]; exact h)
  · simp only [hw, Bool.false_eq_true, if_false]; exact ⟨fun _ _ => trivial, h⟩
theorem wpOpR_putIf {j : Nat} {oi oj : Oper} {v : Value} (hnd : noDefer ops = true) (hj : ops[j]? = some oj) (hap : oi.apart ops oj = true)
    (hsi : ∀ cs b, oi.op ≠ .select cs b) (hsj : ∀ cs b, oj.op ≠ .select cs b)
    (hQ : ∀ c a w, Q (.panic c) (a.put oi.dst v) w → Q (.panic c) a w) {K : Act → World → Prop} {a : Act} {w : World}
    (hy : YieldsIf P ops S oi v a) (h : wpOpIn (Rn l) 0 P ops Q j K (a.put oi.dst v) w) :
    wpOpIn (Rn l) 0 P ops Q j (fun a' w' => YieldsIf P ops S oi v a' ∧ K (a'.put oi.dst v) w') a w := by
  have hnj := noDefer_spec hnd j oj hj
  obtain ⟨h1, h2, h3⟩ := Oper.apart_spec hap
  have keep : ∀ (a : Act), YieldsIf P ops S oi v a → ∀ u, YieldsIf P ops S oi v (a.put oj.dst u) := fun a hy u =>
    hy.of_same (execOp_put oi hsi a oj.dst u h3) (wanted_put oi a oj.dst u h3)
  have keepD : ∀ d, YieldsIf P ops S oi v { a with defers := d :: a.defers } := fun d => hy.of_same rfl rfl
  unfold wpOpIn at *
  simp only [hj] at *
  rw [wanted_put oj a oi.dst v h1] at h
  split
  · rename_i hw
    simp only [hw, if_true] at h
    unfold Oper.wpIn at *
    refine ⟨fun _ _ => trivial, ?_⟩
    have h := h.2
    rw [show (Rn l).round = none from rfl, Oper.semAt_none] at h ⊢
    rw [execOp_put oj hsj a oi.dst v h1] at h
    generalize (execOp a.eval oj).run P w = r at *
    cases r with
    | ok x w' =>
      cases x <;> simp only [Oper.uponIn] at h ⊢
      case value u => exact ⟨keep a hy u, by rw [← Act.put_comm a v u h2]; exact h⟩
      case skip => exact ⟨keep a hy _, by rw [← Act.put_comm a v undef h2]; exact h⟩
      case defer d =>
        refine ⟨keep _ (keepD d) _, ?_⟩
        rw [← Act.put_comm _ v undef h2, ← Act.put_defers]
        exact h
      case enter f args =>
        refine ⟨h.1, CallsIn.mono h.2 fun e w'' he => ?_⟩
        cases e with
        | returned u => exact ⟨keep a hy u, by rw [← Act.put_comm a v u h2]; exact he⟩
        | panicked c => exact hQ _ _ _ he
        | outgrown => exact he
      case row row args => exact ⟨h.1, RowsIn.mono h.2 fun u w'' he => ⟨keep a hy u, by rw [← Act.put_comm a v u h2]; exact he⟩⟩
      case round l f tmps assign body =>
        refine ⟨h.1, RoundIn.mono h.2 fun e w'' he => ?_⟩
        cases e with
        | returned u => exact ⟨keep a hy u, by rw [← Act.put_comm a v u h2]; exact he⟩
        | panicked c => exact hQ _ _ _ he
        | outgrown => exact he
    | halt x w' =>
      cases x <;> simp only [Oper.uponIn] at h ⊢
      case panic u => exact hQ _ _ _ h
  · rename_i hw
    simp only [hw] at h
    exact ⟨fun _ _ => trivial, keep a hy _, by rw [← Act.put_comm a v undef h2]; exact h.2⟩
theorem wpAnyR_first {i : Nat} {oi : Oper} {v : Value} (hnd : noDefer ops = true) (hwd : waitsOn ops d i = true) (hi : ops[i]? = some oi) (hsel : ∀ (j : Nat) (o : Oper) cs b, ops[j]? = some o → o.op ≠ .select cs b)
    (hQ : ∀ c a w, Q (.panic c) (a.put oi.dst v) w → Q (.panic c) a w) :
    ∀ (fuel : Nat) (listed : Array Bool) (a : Act) (w : World),
      (∀ j oj, ops[j]? = some oj → j ≠ i → listed.getD j true = false → (∀ e ∈ oj.after, Region.binds .any e = true → e.on ≠ i) → oi.apart ops oj = true) →
      i ∈ Region.ready .any ops listed → YieldsIf P ops S oi v a → S w →
      wpAnyR l P ops Q S d fuel (listed.setIfInBounds i true) (a.put oi.dst v) w → wpAnyR l P ops Q S d (fuel + 1) listed a w := by
  intro fuel
  induction fuel with
  | zero =>
    intro listed a w _ hr hy hS H
    refine ⟨fun h => (by rw [h] at hr; cases hr), fun j hj => ?_⟩
    by_cases hji : j = i
    · subst hji; exact YieldsIf.wpOpR hnd hi hy hS ⟨.inr hS, H⟩
    · have := ready_mono hj hji
      rw [H.1] at this
      cases this
  | succ fuel ih =>
    intro listed a w hfree hr hy hS H
    refine ⟨fun h => (by rw [h] at hr; cases hr), fun j hj => ?_⟩
    by_cases hji : j = i
    · subst hji; exact YieldsIf.wpOpR hnd hi hy hS ⟨.inr hS, H⟩
    · have h1 := H.2 j (ready_mono hj hji)
      obtain ⟨hjun, oj, hoj, hall⟩ := mem_ready.1 hj
      have hnot : ∀ e ∈ oj.after, Region.binds .any e = true → e.on ≠ i := fun e he hb heq => by
        have h1 := hall e he hb
        have h0 := (mem_ready.1 hr).1
        rw [heq] at h1
        rcases Nat.lt_or_ge i listed.size with h' | h'
        · simp [h'] at h0 h1; rw [h0] at h1; cases h1
        · simp [Array.getElem?_eq_none h'] at h1
      have h2 := wpOpR_putIf hnd hoj (hfree j oj hoj hji hjun hnot) (fun cs b => hsel i oi cs b hi) (fun cs b => hsel j oj cs b hoj) hQ hy h1
      have hfree' : ∀ k ok, ops[k]? = some ok → k ≠ i → (listed.setIfInBounds j true).getD k true = false →
          (∀ e ∈ ok.after, Region.binds .any e = true → e.on ≠ i) → oi.apart ops ok = true := fun k ok hk hki hun hno => by
        refine hfree k ok hk hki ?_ hno
        by_cases hjk : j = k
        · subst hjk; exact hjun
        · rw [getD_set_ne true hjk] at hun; exact hun
      have hjd : j ≠ d := by
        rintro rfl
        unfold waitsOn at hwd
        rw [hoj] at hwd
        obtain ⟨q, hq, hqb⟩ := List.any_eq_true.1 hwd
        rw [Array.mem_toList_iff] at hq
        rw [Bool.and_eq_true] at hqb
        exact hnot q hq hqb.1 (by simpa using hqb.2)
      refine wpOpIn_mono (fun a' w' h3 => ⟨.inr (h3.2.1.resolve_left hjd), ih (listed.setIfInBounds j true) a' w' hfree' (ready_mono hr (Ne.symm hji)) h3.1 (h3.2.1.resolve_left hjd) ?_⟩) h2
      rw [Array.setIfInBounds_comm _ _ hji]
      exact h3.2.2
/-- Take number i first. -/
theorem wpAnyR_take {i : Nat} {oi : Oper} {v : Value} {fuel : Nat} {listed : Array Bool} {a : Act} {w : World} (hnd : noDefer ops = true) (hwd : waitsOn ops d i = true) (hi : ops[i]? = some oi)
    (hs : Region.noSelect ops = true) (hf : Region.free .any ops listed i = true) (hr : (Region.ready .any ops listed).contains i = true)
    (hQ : ∀ c a w, Q (.panic c) (a.put oi.dst v) w → Q (.panic c) a w) (hy : YieldsIf P ops S oi v a) (hS : S w)
    (h : wpAnyR l P ops Q S d fuel (listed.setIfInBounds i true) (a.put oi.dst v) w) : wpAnyR l P ops Q S d (fuel + 1) listed a w :=
  wpAnyR_first hnd hwd hi (Region.noSelect_spec hs) hQ fuel listed a w (Region.free_spec hi hf) (by simpa using hr) hy hS h
/-- Number i is the only one that may come up: it goes as anywhere. -/
theorem wpAnyR_one {i : Nat} {o : Oper} {fuel : Nat} {listed : Array Bool} {a : Act} {w : World} (hnd : noDefer ops = true) (hr : Region.ready .any ops listed = [i]) (ho : ops[i]? = some o)
    (h : ∀ K' : Act → World → Prop, Shut (∀ a w, (i = d ∨ S w) → wpAnyR l P ops Q S d fuel (listed.setIfInBounds i true) a w → K' a w) → if Region.wanted o (yielded ops a.tmps) = true then Oper.wp P o a w K' Q else K' (a.put o.dst undef) w) :
    wpAnyR l P ops Q S d (fuel + 1) listed a w := by
  refine ⟨fun h0 => (by rw [hr] at h0; cases h0), fun j hj => ?_⟩
  rw [hr] at hj
  obtain rfl := List.mem_singleton.1 hj
  have := h (fun a' w' => (j = d ∨ S w') ∧ wpAnyR l P ops Q S d fuel (listed.setIfInBounds j true) a' w') (fun a w hs hw => ⟨hs, hw⟩)
  unfold Go.wpOpIn
  simp only [ho]
  split
  · rename_i hw; rw [if_pos hw] at this; exact op_in l 0 (noDefer_spec hnd j o ho) this
  · rename_i hw; rw [if_neg hw] at this; exact ⟨fun _ _ => trivial, this⟩
/-- Number i is the only one that may come up, and it is a call of yield (or whatever else goes in a round alone). -/
theorem wpAnyR_oneIn {i : Nat} {o : Oper} {fuel : Nat} {listed : Array Bool} {a : Act} {w : World} (hr : Region.ready .any ops listed = [i]) (ho : ops[i]? = some o)
    (h : ∀ K' : Act → World → Prop, Shut (∀ a w, (i = d ∨ S w) → wpAnyR l P ops Q S d fuel (listed.setIfInBounds i true) a w → K' a w) → if Region.wanted o (yielded ops a.tmps) = true then Oper.wpIn (Rn l) 0 P o a w K' Q else K' (a.put o.dst undef) w) :
    wpAnyR l P ops Q S d (fuel + 1) listed a w := by
  refine ⟨fun h0 => (by rw [hr] at h0; cases h0), fun j hj => ?_⟩
  rw [hr] at hj
  obtain rfl := List.mem_singleton.1 hj
  have := h (fun a' w' => (j = d ∨ S w') ∧ wpAnyR l P ops Q S d fuel (listed.setIfInBounds j true) a' w') (fun a w hs hw => ⟨hs, hw⟩)
  unfold Go.wpOpIn
  simp only [ho]
  split
  · rename_i hw; rw [if_pos hw] at this; exact this
  · rename_i hw; rw [if_neg hw] at this; exact ⟨fun _ _ => trivial, this⟩
theorem wpAnyR_done {listed : Array Bool} {a : Act} {w : World} (hr : Region.ready .any ops listed = []) (h : Q .normal a w) : ∀ fuel, wpAnyR l P ops Q S d fuel listed a w
  | 0 => ⟨hr, h⟩
  | _ + 1 => ⟨fun _ => h, by rw [hr]; simp⟩
/-- The beginning. -/
theorem wpIn_region_R (d : Nat) {id : Nat} {a : Act} {w : World} (hm : P.follows .mixedOrders = true) (hS : S w.drew)
    (h : S w.drew → wpAnyR l P ops Q S d ops.size (Array.replicate ops.size false) a w.drew) : (Code.region id ops true).wpIn (Rn l) 0 P Q a w :=
  wpIn_region_any hm (wpAnyIn_of_R _ _ _ _ (h hS))
end
end Go.Proofs.YtghblnldokpceaaDoor.SeqW
/- exec.Group where the rows are counted, as a function. -/
namespace Go.Proofs.YtghblnldokpceaaDoor.QV
open Go.RowKit Go.Proofs.YtghblnldokpceaaDoorW.PrintWords Go.Proofs.YtghblnldokpceaaDoor.SeqW Go.Shelf Go.Proofs.YtghblnldokpceaaDoor.Op
set_option linter.unusedVariables false
set_option linter.unusedSimpArgs false
attribute [local go_sem] Oper.semAt_some

theorem clone_ints_nil (w : World) : Calls Tryd.prog 23 #[.slice none 0 0] w fun e w' => e = .returned (.slice none 0 0) ∧ w' = w := by
  have hn := Lib.run_eql_slice_nil (P := Tryd.prog)
  go_enter Tryd.func23, Tryd.ntmps23
  go_wp2
  go_ret
  exact ⟨rfl, rfl⟩
/-! the kind of api.Agg, as the print spells kinds -/
structure S53 where
  f0 : Int
  f1 : Int
def k53 : Kd S53 := Kd.iso (Kd.pair (Kd.int .i64) (Kd.int .i64)) (fun x : S53 => (x.f0, x.f1))
theorem k53_open {w : World} {x : S53} {cs : List Value} (h : k53.K w x cs) : cs = [.int .i64 x.f0, .int .i64 x.f1] := by
  obtain ⟨_, _, rfl, rfl, rfl⟩ := h
  exact rfl
theorem k53_mk (w : World) (x : S53)  : k53.K w x [.int .i64 x.f0, .int .i64 x.f1] := ⟨[.int .i64 x.f0], [.int .i64 x.f1], rfl, rfl, rfl⟩
theorem k53_mkM (w : World) (base : Nat) (ok : Nat → Prop) (x : S53)  : k53.M w base ok x [.int .i64 x.f0, .int .i64 x.f1] := ⟨[.int .i64 x.f0], [.int .i64 x.f1], rfl, rfl, rfl⟩
abbrev kA : Kd S53 := k53
theorem infoA : (Tryd.prog.info? 53).map (fun i => (i.zero, i.size, i.bytes)) = some (some (.agg #[.int .i64 0, .int .i64 0]), 2, 16) := by kernel_rfl
theorem kA_KM {w W : World} {base : Nat} {ok : Nat → Prop} (x : S53) (cs : List Value) (h : kA.K w x cs) : kA.M W base ok x cs := by
  rw [k53_open h]; exact k53_mkM _ _ _ _
set_option maxHeartbeats 1000000 in
theorem clone_aggs (ad : Addr) (l : List S53) (c : Nat) (w : World) (hr : kA.C w (some ad) l.length l) (hc : l.length ≤ c) (hb : l.length * 16 ≤ 140737488355328) :
    Calls Tryd.prog 38 #[.slice (some ad) l.length c] w fun e w' => ∃ v, e = .returned v ∧ kA.R 53 w' w.heap.size (fun _ => True) v l ∧ Below w.heap.size w w' := by
  have hmax := hr.2.1
  have hn := Lib.run_eql_slice_nil (P := Tryd.prog)
  go_enter Tryd.func38, Tryd.ntmps38
  go_wp2_with (at_builtin; refine Kd.R_append_rows kA (w0 := w) w.heap.size rfl (.tmp 5) (.tmp 6) 54 53 _ 16 rfl Tryd.underlying54 infoA rfl (by decide) (by decide) (.slice (some ⟨w.heap.size, 0, none⟩) 0 0) [] l (some ad) l.length c (fun _ => True) (fun _ => False) rfl rfl (R_empty' kA _ _ _ _ (Nat.le_refl _) trivial) (Kd.C_below hr (below_alloc (Below.refl _ _) _)) (fun x cs h => kA_KM x cs h) (fun _ h => h.elim) (fun _ _ => trivial) (below_alloc (Below.refl _ _) _) (by simp) (by simp; omega) ?_; intro v1 w4 hv1 hB7 hg7 hat7; clear hg7 hat7)
  go_ret
  exact ⟨v1, rfl, by simpa using hv1, hB7⟩

set_option maxHeartbeats 2000000 in
theorem group_is1 (row : Row) (sv : Value) (ga : Nat) (w : World) (hR : IsSeq w sv [row]) (hga : ga < w.heap.size) (ha : kA.C w (some ⟨ga, 0, none⟩) 1 [⟨0, 0⟩]) (hb : row.length ≤ 1048576) :
    Calls Tryd.prog 28 #[sv, .slice none 0 0, .slice (some ⟨ga, 0, none⟩) 1 1] w fun e w' => ∃ v, e = .returned v ∧ IsOwn w' v [one1] ∧ Below w.heap.size w w' := by
  obtain ⟨gR, lbR, RdR, rfl, qR⟩ := hR
  have hR : IsSeq w (.func (.func gR) #[] lbR) [row] := ⟨gR, lbR, RdR, rfl, qR⟩
  clear qR
  go_enter Tryd.func28, Tryd.ntmps28
  go_wp2_with fail
  obtain ⟨w1, hw1⟩ : ∃ w1, ((w.alloc (.cells #[.func (.func gR) #[] lbR] 28)).alloc (.cells #[.slice none 0 0] 24)).alloc (.cells #[.slice (some ⟨ga, 0, none⟩) 1 1] 54) = w1 := ⟨_, rfl⟩
  rw [hw1]
  have hb1 : Below w.heap.size w w1 := by rw [← hw1]; exact below_alloc (below_alloc (below_alloc (Below.refl _ _) _) _) _
  have g0 : w1.heap[w.heap.size]? = some (.cells #[.func (.func gR) #[] lbR] 28 (0, 0)) := by rw [← hw1]; exact blk_alloc (blk_alloc (blk_new _ _) _) _
  have g1 : w1.heap[w.heap.size + 1]? = some (.cells #[.slice none 0 0] 24 (0, 0)) := by
    have := blk_new (w.alloc (.cells #[.func (.func gR) #[] lbR] 28)) (.cells #[.slice none 0 0] 24)
    rw [World.size_alloc] at this
    rw [← hw1]; exact blk_alloc this _
  have g2 : w1.heap[w.heap.size + 1 + 1]? = some (.cells #[.slice (some ⟨ga, 0, none⟩) 1 1] 54 (0, 0)) := by
    have := blk_new ((w.alloc (.cells #[.func (.func gR) #[] lbR] 28)).alloc (.cells #[.slice none 0 0] 24)) (.cells #[.slice (some ⟨ga, 0, none⟩) 1 1] 54)
    rw [World.size_alloc, World.size_alloc] at this
    rw [← hw1]; exact this
  clear hw1
  have hz1 := blk_lt g2
  have S0 : ∀ V, Below w1.heap.size w1 V → V.cell? ⟨w.heap.size + 1, 0, none⟩ = some (.slice none 0 0) ∧ V.cell? ⟨w.heap.size + 1 + 1, 0, none⟩ = some (.slice (some ⟨ga, 0, none⟩) 1 1) ∧ V.frozen? ⟨w.heap.size + 1, 0, none⟩ = false ∧ V.frozen? ⟨w.heap.size + 1 + 1, 0, none⟩ = false :=
    fun V hV => ⟨blk_cell (blk_below g1 hV) 0, blk_cell (blk_below g2 hV) 0, blk_frozen (blk_below g1 hV) 0, blk_frozen (blk_below g2 hV) 0⟩
  refine (wpIn_wide (n := 0)).1 ?_
  refine wpIn_region_R (l := 0) 5 (S := fun V => V.cell? ⟨w.heap.size + 1, 0, none⟩ = some (.slice none 0 0) ∧ V.cell? ⟨w.heap.size + 1 + 1, 0, none⟩ = some (.slice (some ⟨ga, 0, none⟩) 1 1) ∧ V.frozen? ⟨w.heap.size + 1, 0, none⟩ = false ∧ V.frozen? ⟨w.heap.size + 1 + 1, 0, none⟩ = false) (by kernel_rfl) (S0 _ (below_drew (Below.refl _ _))) (fun hS0 => ?_)
  refine wpAnyR_take (i := 0) (oi := ⟨some 7, _, _, _, _, _⟩) (v := ?_) (by kernel_rfl) (by kernel_rfl) rfl (by kernel_rfl) (by kernel_rfl) (by kernel_rfl) (fun _ _ _ h => h) (Or.inl ⟨by rfl, ?_⟩) (by assumption) ?_
  rotate_left
  · intro w hSw; (try dsimp only at hSw); (try go_split_ands); go_simp; (try (with_reducible rfl))
  (try simp only [Act.put, List.setIfInBounds_toArray, List.set_cons_zero, List.set_cons_succ])
  refine wpAnyR_take (i := 2) (oi := ⟨some 9, _, _, _, _, _⟩) (v := ?_) (by kernel_rfl) (by kernel_rfl) rfl (by kernel_rfl) (by kernel_rfl) (by kernel_rfl) (fun _ _ _ h => h) (Or.inl ⟨by rfl, ?_⟩) (by assumption) ?_
  rotate_left
  · intro w hSw; (try dsimp only at hSw); (try go_split_ands); go_simp; (try (with_reducible rfl))
  (try simp only [Act.put, List.setIfInBounds_toArray, List.set_cons_zero, List.set_cons_succ])
  refine wpAnyR_one (i := 1) (o := ⟨some 8, _, _, _, _, _⟩) (by kernel_rfl) (by kernel_rfl) rfl (fun K hK => ?_)
  go_simp
  refine (clone_ints_nil _).mono ?_
  rintro e w2 ⟨rfl, rfl⟩
  (try dsimp only)
  refine hK.out _ _ (.inr (S0 _ (below_drew (Below.refl _ _)))) ?_
  clear hK K
  (try simp only [Act.put, List.setIfInBounds_toArray, List.set_cons_zero, List.set_cons_succ])
  refine wpAnyR_one (i := 3) (o := ⟨some 10, _, _, _, _, _⟩) (by kernel_rfl) (by kernel_rfl) rfl (fun K hK => ?_)
  go_simp
  refine (clone_aggs ⟨ga, 0, none⟩ [⟨0, 0⟩] 1 _ (Kd.C_drew (Kd.C_below ha hb1)) (by simp) (by simp)).mono ?_
  rintro e w2 ⟨v2, rfl, hR2, hb2⟩
  have hb2' : Below w1.heap.size w1 w2 := (below_drew (Below.refl _ w1)).trans hb2
  (try dsimp only)
  refine hK.out _ _ (.inr (S0 _ hb2')) ?_
  clear hK K
  (try simp only [Act.put, List.setIfInBounds_toArray, List.set_cons_zero, List.set_cons_succ])
  obtain ⟨A3, c3', hv3, hle3, hC3⟩ := Kd.R_reads hR2
  obtain ⟨g3, c3, rfl, hg3b, hg3l, cells3, hcells3⟩ := Kd.R_form hR2 (by simp)
  have hg3b' : w1.heap.size ≤ g3 := hg3b
  injection hv3 with hA3
  subst hA3
  obtain ⟨ad3, cs3, hA3, _, hK3, hcs3⟩ := Kd.C_get hC3 ⟨0, 0⟩ 0 (by omega) (by simp)
  injection hA3 with hA3
  subst hA3
  have hop := k53_open hK3
  have e30 : w2.cell? ⟨g3, 0, none⟩ = some (.int .i64 0) := hcs3 0 _ (by rw [hop]; rfl)
  have e31 : w2.cell? ⟨g3, 1, none⟩ = some (.int .i64 0) := hcs3 1 _ (by rw [hop]; rfl)
  have hS2 := S0 _ hb2'
  obtain ⟨q1, q2, q3, q4⟩ := hS2
  refine wpAnyR_one (i := 4) (o := ⟨none, _, _, _, _, _⟩) (by kernel_rfl) (by kernel_rfl) rfl (fun K hK => ?_)
  go_simp
  obtain ⟨w3, hw3⟩ : ∃ w3, w2.setCell ⟨w.heap.size + 1, 0, none⟩ (.slice none 0 0) = w3 := ⟨_, rfl⟩
  rw [hw3]
  have hk3 : Seq.Kpt (fun i => i = w.heap.size + 1) w2 w3 := by rw [← hw3]; exact Seq.Kpt.setCell w2 ⟨w.heap.size + 1, 0, none⟩ _
  have g13 : w3.heap[w.heap.size + 1]? = some (.cells #[.slice none 0 0] 24 (0, 0)) := by rw [← hw3]; simpa using blk_set (blk_below g1 hb2') 0 (.slice none 0 0)
  have g23 : w3.heap[w.heap.size + 1 + 1]? = some (.cells #[.slice (some ⟨ga, 0, none⟩) 1 1] 54 (0, 0)) := hk3.at (blk_below g2 hb2') (by omega)
  clear hw3
  refine hK.out _ _ (.inr ⟨blk_cell g13 0, blk_cell g23 0, blk_frozen g13 0, blk_frozen g23 0⟩) ?_
  clear hK K
  (try simp only [Act.put, List.setIfInBounds_toArray, List.set_cons_zero, List.set_cons_succ])
  have t1 := blk_cell g23 0
  have t2 := blk_frozen g23 0
  refine wpAnyR_one (i := 5) (o := ⟨none, _, _, _, _, _⟩) (by kernel_rfl) (by kernel_rfl) rfl (fun K hK => ?_)
  go_simp
  refine hK.out _ _ (.inl rfl) ?_
  clear hK K
  (try simp only [Act.put, List.setIfInBounds_toArray, List.set_cons_zero, List.set_cons_succ])
  refine wpAnyR_done (by kernel_rfl) ?_ _
  go_wp2
  go_ret
  obtain ⟨w4, hw4⟩ : ∃ w4, w3.setCell ⟨w.heap.size + 1 + 1, 0, none⟩ (.slice (some ⟨g3, 0, none⟩) 1 c3') = w4 := ⟨_, rfl⟩
  rw [hw4]
  have hk4 : Seq.Kpt (fun i => i = w.heap.size + 1 + 1) w3 w4 := by rw [← hw4]; exact Seq.Kpt.setCell w3 ⟨w.heap.size + 1 + 1, 0, none⟩ _
  have g24 : w4.heap[w.heap.size + 1 + 1]? = some (.cells #[.slice (some ⟨g3, 0, none⟩) 1 c3'] 54 (0, 0)) := by rw [← hw4]; simpa using blk_set g23 0 (.slice (some ⟨g3, 0, none⟩) 1 c3')
  have g14 := hk4.at g13 (by omega)
  have g04 := hk4.at (hk3.at (blk_below g0 hb2') (by omega)) (by omega)
  have hg3 := hk4.at (hk3.at hcells3 (by omega)) (by omega)
  have hB4 : Below w.heap.size w w4 := (hb1.trans (hb2'.mono hb1.size)).trans ((hk3.trans hk4 (M := fun i => i = w.heap.size + 1 ∨ i = w.heap.size + 1 + 1) (fun _ _ h => h)).below (by have := hb2'.size; omega) (fun i _ h => by omega))
  refine ⟨_, rfl, ⟨_, _, rfl, fun args w => rfl, group_seq1 row _ _ _ _ g3 c3' w4 (hR.later hB4) (blk_cell g14 0) (blk_cell g04 0) (blk_cell g24 0) ?_ ?_ hb⟩, hB4⟩
  · rw [blk_cell hg3 0, ← blk_cell hcells3 0]; exact e30
  · rw [blk_cell hg3 1, ← blk_cell hcells3 1]; exact e31
end Go.Proofs.YtghblnldokpceaaDoor.QV
/- hayloftlaw15.alive. -/
namespace Go.Proofs.YtghblnldokpceaaDoor.QV
open Go.RowKit Go.Proofs.YtghblnldokpceaaDoorW.PrintWords Go.Proofs.YtghblnldokpceaaDoor.Seq Go.Shelf Go.Proofs.YtghblnldokpceaaDoor.Op
set_option linter.unusedVariables false
set_option linter.unusedSimpArgs false

theorem C_one {α : Type} (d : Kd α) (w : World) (g : Nat) (x : α) (cs : List Value) (hK : d.K w x cs) (hc : ∀ i u, cs[i]? = some u → w.cell? ⟨g, i, none⟩ = some u) : d.C w (some ⟨g, 0, none⟩) 1 [x] := by
  refine ⟨rfl, by decide, fun _ => ⟨_, rfl, fun j p hj => ?_⟩⟩
  match j with
  | 0 =>
    simp at hj
    subst hj
    exact ⟨cs, d.K_len hK, hK, fun i u hu => by
      have := hc i u hu
      by_cases h0 : i = 0
      · subst h0; simpa [Addr.add] using this
      · simpa [Addr.add, h0] using this⟩
  | j + 1 => simp at hj
theorem IsSeq.form {w : World} {sv : Value} {xs : List Row} (h : IsSeq w sv xs) : ∃ g lb, sv = .func (.func g) #[] lb := by
  obtain ⟨g, lb, _, h, _⟩ := h
  exact ⟨g, lb, h⟩
def row2 : Row := [⟨2, false, 2, ⟨#[]⟩⟩]
theorem join_row2 : joinL [row2] [row2] 0 0 = [row2 ++ row2] := by
  have h : cmpV (toV ⟨2, false, 2, ⟨#[]⟩⟩) (toV ⟨2, false, 2, ⟨#[]⟩⟩) = 0 := cmpV_self _
  simp [joinL, joinOne, nzB, hitB, atS, row2, h]
/-- What an iterator whose rows are its consumer's own gives, gathered. -/
theorem all_is (sv : Value) (xs : List Row) (w0 w : World) (h : IsOwn w0 sv xs) (hb0 : Below w0.heap.size w0 w) (hx : ∀ x ∈ xs, x.length * 40 ≤ 140737488351232) (hn : xs.length * 24 ≤ 140737488351232) :
    Calls Tryd.prog 14 #[sv] w fun e w' => ∃ v, e = .returned v ∧ Kd.S kRows tRow w' w.heap.size (fun _ => True) v xs ∧ Below w.heap.size w w' := by
  obtain ⟨g, lb, rfl, eg, hs⟩ := h
  exact all_any g lb xs w0 w eg hs hb0 hx hn

set_option maxRecDepth 100000 in
set_option maxHeartbeats 4000000 in
theorem aliveX_any (w : World) : Calls Tryd.prog 12 #[] w fun e w' => e = .returned (.bool true) ∧ Below w.heap.size w w' := by
  obtain ⟨kc, hkc⟩ := copied_f [row2] (by simp) (by simp [row2])
  have hj2 := join_row2
  go_enter Tryd.func12, Tryd.ntmps12
  go_wp2_with fail
  obtain ⟨w1, hw1⟩ : ∃ w1, (w.alloc (.cells #[.int .i64 2, .bool false, .int .i64 2, .string ⟨#[]⟩] 43)).alloc (.cells #[.slice (some ⟨w.heap.size, 0, none⟩) 1 1] 31) = w1 := ⟨_, rfl⟩
  rw [hw1]
  have hb1 : Below w.heap.size w w1 := by rw [← hw1]; exact below_alloc (below_alloc (Below.refl _ _) _) _
  have g0 : w1.heap[w.heap.size]? = some (.cells #[.int .i64 2, .bool false, .int .i64 2, .string ⟨#[]⟩] 43 (0, 0)) := by rw [← hw1]; exact blk_alloc (blk_new _ _) _
  have g1 : w1.heap[w.heap.size + 1]? = some (.cells #[.slice (some ⟨w.heap.size, 0, none⟩) 1 1] 31 (0, 0)) := by
    have := blk_new (w.alloc (.cells #[.int .i64 2, .bool false, .int .i64 2, .string ⟨#[]⟩] 43)) (.cells #[.slice (some ⟨w.heap.size, 0, none⟩) 1 1] 31)
    rw [World.size_alloc] at this
    rw [← hw1]; exact this
  clear hw1
  have hr0 : kS.C w1 (some ⟨w.heap.size, 0, none⟩) 1 row2 := C_one kS w1 w.heap.size _ _ (k43_mk w1 ⟨2, false, 2, ⟨#[]⟩⟩) (fun i u hu => by rw [blk_cell g0 i]; simpa using hu)
  have hr1 : kRows.C w1 (some ⟨w.heap.size + 1, 0, none⟩) [row2].length [row2] := C_one kRows w1 (w.heap.size + 1) row2 [.slice (some ⟨w.heap.size, 0, none⟩) row2.length 1] ⟨_, _, rfl, by simp [row2], hr0⟩ (fun i u hu => by rw [blk_cell g1 i]; simpa [row2] using hu)
  -- exec.Join
  refine (values_is _ [row2] 1 w1 hr1).mono ?_
  rintro e w2 ⟨v2, rfl, hs2, hb2⟩
  obtain ⟨f2, l2, rfl⟩ := hs2.form
  have hB2 := hb1.trans (hb2.mono hb1.size)
  go_wp2_with fail
  refine (hayloftlaw15_copied.calls kc _ 1 [row2] [row2] w2 (Kd.C_below hr1 hb2) (by simp) hkc).mono ?_
  rintro e w3 ⟨v3, rfl, hS3, hb3⟩
  have hB3 := hB2.trans (hb3.mono hB2.size)
  obtain ⟨A3, c3, rfl, hle3, hC3⟩ := Kd.S_reads hS3
  go_wp2_with fail
  refine (values_is A3 [row2] c3 w3 hC3).mono ?_
  rintro e w4 ⟨v4, rfl, hs4, hb4⟩
  obtain ⟨f4, l4, rfl⟩ := hs4.form
  have hB4 := hB3.trans (hb4.mono hB3.size)
  go_wp2_with fail
  refine (join_is [row2] [row2] 0 0 _ _ w4 ((hs2.later hb3).later hb4) hs4 (by simp [row2]) (by simp [row2]) (by simp)).mono ?_
  rintro e w5 ⟨v5, rfl, hs5, hb5⟩
  rw [hj2] at hs5
  obtain ⟨f5, l5, rfl⟩ := hs5.seq.form
  have hB5 := hB4.trans (hb5.mono hB4.size)
  go_wp2_with fail
  refine (all_is _ [row2 ++ row2] w5 w5 hs5 (Below.refl _ _) (by simp [row2]) (by simp)).mono ?_
  rintro e w6 ⟨v6, rfl, hS6, hb6⟩
  have hB6 := hB5.trans (hb6.mono hB5.size)
  obtain ⟨A6, c6, rfl, hle6, hC6⟩ := Kd.S_reads hS6
  go_wp2_with fail
  -- exec.Group
  have hb16 : Below w1.heap.size w1 w6 := (((hb2.trans (hb3.mono hb2.size)).trans (hb4.mono (by have := hb2.size; have := hb3.size; omega))).trans (hb5.mono (by have := hb2.size; have := hb3.size; have := hb4.size; omega))).trans (hb6.mono (by have := hb2.size; have := hb3.size; have := hb4.size; have := hb5.size; omega))
  refine (hayloftlaw15_copied.calls kc _ 1 [row2] [row2] w6 (Kd.C_below hr1 hb16) (by simp) hkc).mono ?_
  rintro e w7 ⟨v7, rfl, hS7, hb7⟩
  have hB7 := hB6.trans (hb7.mono hB6.size)
  obtain ⟨A7, c7, rfl, hle7, hC7⟩ := Kd.S_reads hS7
  go_wp2_with fail
  refine (values_is A7 [row2] c7 w7 hC7).mono ?_
  rintro e w8 ⟨v8, rfl, hs8, hb8⟩
  obtain ⟨f8, l8, rfl⟩ := hs8.form
  have hB8 := hB7.trans (hb8.mono hB7.size)
  go_wp2_with fail
  obtain ⟨w9, hw9⟩ : ∃ w9, w8.alloc (.cells #[.int .i64 0, .int .i64 0] 53) = w9 := ⟨_, rfl⟩
  rw [hw9]
  have hb9 : Below w8.heap.size w8 w9 := by rw [← hw9]; exact below_alloc (Below.refl _ _) _
  have g9 : w9.heap[w8.heap.size]? = some (.cells #[.int .i64 0, .int .i64 0] 53 (0, 0)) := by rw [← hw9]; exact blk_new _ _
  clear hw9
  have hB9 := hB8.trans (hb9.mono hB8.size)
  refine (group_is1 row2 _ w8.heap.size w9 (hs8.later hb9) (blk_lt g9) (C_one kA w9 w8.heap.size ⟨0, 0⟩ _ (k53_mk w9 ⟨0, 0⟩) (fun i u hu => by rw [blk_cell g9 i]; simpa using hu)) (by simp [row2])).mono ?_
  rintro e w10 ⟨v10, rfl, hs10, hb10⟩
  obtain ⟨f10, l10, rfl⟩ := hs10.seq.form
  have hB10 := hB9.trans (hb10.mono hB9.size)
  go_wp2_with fail
  refine (all_is _ [one1] w10 w10 hs10 (Below.refl _ _) (by simp [one1]) (by simp)).mono ?_
  rintro e w11 ⟨v11, rfl, hS11, hb11⟩
  have hB11 := hB10.trans (hb11.mono hB10.size)
  obtain ⟨A11, c11, rfl, hle11, hC11⟩ := Kd.S_reads hS11
  have hb611 : Below w6.heap.size w6 w11 := ((((hb7.trans (hb8.mono hb7.size)).trans (hb9.mono (by have := hb7.size; have := hb8.size; omega))).trans (hb10.mono (by have := hb7.size; have := hb8.size; have := hb9.size; omega))).trans (hb11.mono (by have := hb7.size; have := hb8.size; have := hb9.size; have := hb10.size; omega)))
  obtain ⟨ad, cs, rfl, _, ⟨Ax, cx, rfl, hlex, hCx⟩, hcs⟩ := Kd.C_get (Kd.C_below hC6 hb611) [] 0 (by omega) (by simp)
  obtain ⟨am, cm, rfl, _, ⟨Ay, cy, rfl, hley, hCy⟩, hcm⟩ := Kd.C_get hC11 [] 0 (by omega) (by simp)
  obtain ⟨ay, cn, rfl, _, hKy, hcn⟩ := Kd.C_get hCy zV 0 (by omega) (by simp [one1])
  have hop := k43_open hKy
  have m0 := hcs 0 _ rfl
  have m1 := hcm 0 _ rfl
  have m2 := hcn 2 (.int .i64 1) (by rw [hop]; rfl)
  have z0 : ∀ a : Addr, a.add 0 = a := fun a => by cases a; simp [Addr.add]
  have m0' : w11.cell? ad = some (.slice Ax 2 cx) := by rw [← z0 ad]; exact m0
  have m1' : w11.cell? am = some (.slice (some ay) 1 cy) := by rw [← z0 am]; exact m1
  have m2' : w11.cell? ⟨ay.block, ay.off + 2, none⟩ = some (.int .i64 1) := by
    have := add_field ay 0 2 (by omega)
    rw [z0] at this
    rw [← this]; exact m2
  clear m0 m1 m2 hcs hcm hcn
  go_wp2_with fail
  go_ret
  exact ⟨rfl, hB11⟩
end Go.Proofs.YtghblnldokpceaaDoor.QV
/- The reference's Term. -/
namespace Go.Proofs.YtghblnldokpceaaDoor.Op
open Go.RowKit Go.Proofs.YtghblnldokpceaaDoorW.PrintWords
set_option linter.unusedVariables false

theorem tab_at (o n : Int) (h0 : 0 ≤ o) (h5 : o ≤ 5) (h1 : -1 ≤ n) (h2 : n ≤ 1) : tabL.getD (o.toNat * 3 + (n + 1).toNat) false =
    if o = 0 then n == 0 else if o = 1 then n != 0 else if o = 2 then decide (n < 0) else if o = 3 then decide (n ≤ 0) else if o = 4 then decide (0 < n) else decide (0 ≤ n) := by
  have ho : o = 0 ∨ o = 1 ∨ o = 2 ∨ o = 3 ∨ o = 4 ∨ o = 5 := by omega
  have hn : n = -1 ∨ n = 0 ∨ n = 1 := by omega
  rcases ho with rfl | rfl | rfl | rfl | rfl | rfl <;> rcases hn with rfl | rfl | rfl <;> rfl
theorem termB_ref (t : T) (row : List V) (h : 0 ≤ t.c ∧ t.c < row.length) (n : Int) (hn : cmpV (row.getD t.c.toNat V.z) t.v = n) : termB t row =
    if t.o = 6 then (row.getD t.c.toNat V.z).k == 0 else if t.o = 7 then (row.getD t.c.toNat V.z).k != 0
    else if (row.getD t.c.toNat V.z).k = 0 ∨ t.v.k = 0 then false
    else if t.o = 0 then n == 0 else if t.o = 1 then n != 0 else if t.o = 2 then decide (n < 0) else if t.o = 3 then decide (n ≤ 0) else if t.o = 4 then decide (0 < n) else t.o == 5 && decide (0 ≤ n) := by
  rw [termB_in t row h, hn]
  have hr := cmpV_range (row.getD t.c.toNat V.z) t.v
  rw [hn] at hr
  split
  · rfl
  · split
    · rfl
    · by_cases hz : (row.getD t.c.toNat V.z).k = 0 ∨ t.v.k = 0
      · rw [if_pos hz]
        split
        · rcases hz with hz | hz
          · rw [show ((row.getD t.c.toNat V.z).k != 0) = false from bne_eq_false_iff_eq.2 hz]; simp
          · rw [show (t.v.k != 0) = false from bne_eq_false_iff_eq.2 hz]; simp
        · rfl
      · rw [if_neg hz]
        have z1 : ((row.getD t.c.toNat V.z).k != 0) = true := bne_iff_ne.2 (fun e => hz (.inl e))
        have z2 : (t.v.k != 0) = true := bne_iff_ne.2 (fun e => hz (.inr e))
        rw [z1, z2]
        split
        · rename_i h05
          rw [tab_at _ _ h05.1 h05.2 hr.1 hr.2]
          repeat' split
          all_goals simp_all
          all_goals omega
        · rw [if_neg (by omega), if_neg (by omega), if_neg (by omega), if_neg (by omega), if_neg (by omega)]
          have : (t.o == 5) = false := beq_eq_false_iff_ne.2 (by omega)
          rw [this]; rfl

set_option maxHeartbeats 2000000 in
theorem ref_term (t : T) (A : Option Addr) (row : List V) (c : Nat) (w : World) (hr : kV.C w A row.length row) (hc : row.length ≤ c) :
    Calls Tryd.prog 32 #[t.val, .slice A row.length c] w fun e w' => e = .returned (.bool (termB t row)) ∧ Below w.heap.size w w' := by
  obtain ⟨tc, o, k, b, i, s⟩ := t
  have hm := hr.2.1
  unfold T.val
  by_cases h0 : 0 ≤ tc ∧ tc < row.length
  · have HF := Lib.hid (termB_ref ⟨tc, o, ⟨k, b, i, s⟩⟩ row h0 _ rfl)
    obtain ⟨h0, h1⟩ := h0
    obtain ⟨ad, rfl, hv⟩ := kV_at hr tc.toNat (by omega)
    generalize hx : row.getD tc.toNat V.z = x at hv HF
    obtain ⟨vk, vb, vi, vs⟩ := x
    obtain ⟨hlt, hv0, hv1, hv2, hv3⟩ := hv
    simp only at hv0 hv1 hv2 hv3 HF
    clear hx
    generalize hn : cmpV ⟨vk, vb, vi, vs⟩ ⟨k, b, i, s⟩ = n at HF
    have HN := Lib.hid hn
    clear hn
    go_enter Tryd.func32, Tryd.ntmps32
    go_wp2_with (go_at_call 46; refine (ref_compareV ⟨vk, vb, vi, vs⟩ ⟨k, b, i, s⟩ _).mono ?_; rintro e w1 ⟨rfl, hb⟩; obtain ⟨hbc, hbf⟩ := bcell hb; rw [HN.out])
    all_goals go_ret
    all_goals refine ⟨ret_bool ?_, by first | exact ((Below.refl _ _).alloc (Nat.le_refl _) _).alloc (by simp) _ | exact (((Below.refl _ _).alloc (Nat.le_refl _) _).alloc (by simp) _).trans (Below.mono (by assumption) (by simp; omega))⟩
    all_goals rw [HF.out]
    all_goals simp_all
  · have HF := Lib.hid (termB_out ⟨tc, o, ⟨k, b, i, s⟩⟩ row h0)
    by_cases hneg : tc < 0
    all_goals
      go_enter Tryd.func32, Tryd.ntmps32
      go_wp2
      go_ret
      exact ⟨ret_bool HF.out, (Below.refl _ _).alloc (Nat.le_refl _) _⟩
end Go.Proofs.YtghblnldokpceaaDoor.Op
/- All terms of a list; what the law calls 'alive'. -/
namespace Go.Proofs.YtghblnldokpceaaDoor.Op
open Go.RowKit Go.Proofs.YtghblnldokpceaaDoorW.PrintWords
set_option linter.unusedVariables false

def allB (l : List T) (row : List V) : Bool := l.all fun t => termB t row
theorem allB_no {l : List T} {row : List V} {k : Nat} (hk : k < l.length) (h : termB (l.getD k T.z) row = false) : allB l row = false := by
  unfold allB
  rw [List.all_eq_false]
  refine ⟨l[k], List.getElem_mem hk, ?_⟩
  rw [List.getD_eq_getElem?_getD, List.getElem?_eq_getElem hk] at h
  simpa using h
theorem allB_yes {l : List T} {row : List V} (h : ∀ j, j < l.length → termB (l.getD j T.z) row = true) : allB l row = true := by
  unfold allB
  rw [List.all_eq_true]
  intro x hx
  obtain ⟨j, hj, rfl⟩ := List.getElem_of_mem hx
  have := h j hj
  rwa [List.getD_eq_getElem?_getD, List.getElem?_eq_getElem hj] at this

set_option maxHeartbeats 2000000 in
theorem all_any (Al : Option Addr) (l : List T) (cl : Nat) (A : Option Addr) (row : List V) (c : Nat) (w : World) (hl : kT.C w Al l.length l) (hcl : l.length ≤ cl) (hr : kV.C w A row.length row) (hc : row.length ≤ c) (hT : Tab w) :
    Calls Tryd.prog 19 #[.slice Al l.length cl, .slice A row.length c] w fun e w' => e = .returned (.bool (allB l row)) ∧ Below w.heap.size w w' := by
  have hml := hl.2.1
  have hm := hr.2.1
  go_enter Tryd.func19, Tryd.ntmps19
  go_wp2
  go_loopw [9] (fun i wr => ∃ k : Nat, i = .int .i64 k ∧ k ≤ l.length ∧ (∀ j, j < k → termB (l.getD j T.z) row = true) ∧ Below w.heap.size w wr) (fun i _ => l.length - (intOf i).toNat)
  case atStart => exact ⟨0, rfl, Nat.zero_le _, fun _ h => by omega, Below.refl _ _⟩
  case round =>
    obtain ⟨k, rfl, hk, hall, hB⟩ := hrel
    have HA := Lib.hid hall
    clear hall
    by_cases hlt : k < l.length
    · obtain ⟨ad, rfl, hv⟩ := kT_at (Kd.C_below hl hB) k hlt
      generalize hx : l.getD k T.z = x at hv
      have HX := Lib.hid hx
      clear hx
      obtain ⟨tc, o, ⟨k', b, i, s⟩⟩ := x
      obtain ⟨hblt, hv0, hv1, hv2, hv3, hv4, hv5⟩ := hv
      simp only at hv0 hv1 hv2 hv3 hv4 hv5
      cases htb : termB ⟨tc, o, ⟨k', b, i, s⟩⟩ row
      all_goals
        have HTB := Lib.hid htb
        clear htb
        go_wp2_with fail
        refine (term_any ⟨tc, o, ⟨k', b, i, s⟩⟩ A row c _ (Kd.C_below hr (below_alloc hB _)) hc (hT.below (below_alloc hB _))).mono ?_
        rintro e w1 ⟨rfl, hb⟩
        rw [HTB.out]
        have hB1 : Below w.heap.size w w1 := (below_alloc hB _).trans (hb.mono (by have := hB.size; simp; omega))
        clear hb
        go_wp2
      · go_ret
        refine ⟨ret_bool (allB_no hlt (by rw [HX.out]; exact HTB.out)), hB1⟩
      · go_roundw
        case rel =>
          refine ⟨k + 1, by go_num, by omega, fun j hj => ?_, hB1⟩
          rcases Nat.lt_or_ge j k with hjk | hjk
          · exact HA.out j hjk
          · obtain rfl : j = k := by omega
            rw [HX.out]; exact HTB.out
        case measure => simp [intOf]; omega
    · obtain rfl : k = l.length := by omega
      go_wp2
      go_ret
      exact ⟨ret_bool (allB_yes HA.out), hB⟩

set_option maxHeartbeats 2000000 in
theorem ref_all (Al : Option Addr) (l : List T) (cl : Nat) (A : Option Addr) (row : List V) (c : Nat) (w : World) (hl : kT.C w Al l.length l) (hcl : l.length ≤ cl) (hr : kV.C w A row.length row) (hc : row.length ≤ c) :
    Calls Tryd.prog 22 #[.slice Al l.length cl, .slice A row.length c] w fun e w' => e = .returned (.bool (allB l row)) ∧ Below w.heap.size w w' := by
  have hml := hl.2.1
  have hm := hr.2.1
  go_enter Tryd.func22, Tryd.ntmps22
  go_wp2
  go_loopw [5] (fun i wr => ∃ k : Nat, i = .int .i64 k ∧ k ≤ l.length ∧ (∀ j, j < k → termB (l.getD j T.z) row = true) ∧ Below w.heap.size w wr) (fun i _ => l.length - (intOf i).toNat)
  case atStart => exact ⟨0, rfl, Nat.zero_le _, fun _ h => by omega, Below.refl _ _⟩
  case round =>
    obtain ⟨k, rfl, hk, hall, hB⟩ := hrel
    have HA := Lib.hid hall
    clear hall
    by_cases hlt : k < l.length
    · obtain ⟨ad, rfl, hv⟩ := kT_at (Kd.C_below hl hB) k hlt
      generalize hx : l.getD k T.z = x at hv
      have HX := Lib.hid hx
      clear hx
      obtain ⟨tc, o, ⟨k', b, i, s⟩⟩ := x
      obtain ⟨hblt, hv0, hv1, hv2, hv3, hv4, hv5⟩ := hv
      simp only at hv0 hv1 hv2 hv3 hv4 hv5
      cases htb : termB ⟨tc, o, ⟨k', b, i, s⟩⟩ row
      all_goals
        have HTB := Lib.hid htb
        clear htb
        go_wp2_with fail
        refine (ref_term ⟨tc, o, ⟨k', b, i, s⟩⟩ A row c _ (Kd.C_below hr hB) hc).mono ?_
        rintro e w1 ⟨rfl, hb⟩
        rw [HTB.out]
        have hB1 : Below w.heap.size w w1 := hB.trans (hb.mono hB.size)
        clear hb
        go_wp2
      · go_ret
        refine ⟨ret_bool (allB_no hlt (by rw [HX.out]; exact HTB.out)), hB1⟩
      · go_roundw
        case rel =>
          refine ⟨k + 1, by go_num, by omega, fun j hj => ?_, hB1⟩
          rcases Nat.lt_or_ge j k with hjk | hjk
          · exact HA.out j hjk
          · obtain rfl : j = k := by omega
            rw [HX.out]; exact HTB.out
        case measure => simp [intOf]; omega
    · obtain rfl : k = l.length := by omega
      go_wp2
      go_ret
      exact ⟨ret_bool (allB_yes HA.out), hB⟩

end Go.Proofs.YtghblnldokpceaaDoor.Op
/- Contracts of layer 14 that were proved by hand, in the print's form. -/
namespace Go.Proofs.YtghblnldokpceaaDoor.QV
open Go.RowKit Go.Proofs.YtghblnldokpceaaDoorW.PrintWords Go.Proofs.YtghblnldokpceaaDoor.Op
set_option linter.unusedVariables false
def toT (x : S45) : T := ⟨x.f0, x.f1, toV x.f2⟩
theorem C_toT {w : World} {A : Option Addr} {xs : List S45} (h : Kd.C k45 w A xs.length xs) : Kd.C kT w A (xs.map toT).length (xs.map toT) := by
  rw [List.length_map]
  exact C_map toT rfl (fun _ _ _ hk => hk) h
/-- Are all terms true of a row? -/
def allS (l : List S45) (x : List S43) : Bool := allB (l.map toT) (x.map toV)
theorem allS_any (A0 : Option Addr) (c0 : Nat) (l0 : List (S45)) (A1 : Option Addr) (c1 : Nat) (l1 : List (S43)) (w : World) (hr0 : Kd.C k45 w A0 l0.length l0) (hc0 : l0.length ≤ c0) (hr1 : Kd.C k43 w A1 l1.length l1) (hc1 : l1.length ≤ c1) (hT : Tab w) :
    Calls Tryd.prog 19 #[.slice A0 l0.length c0, .slice A1 l1.length c1] w fun e w' => e = .returned (.bool (allS l0 l1)) ∧ Below w.heap.size w w' := by
  have := Op.all_any A0 (l0.map toT) c0 A1 (l1.map toV) c1 w (C_toT hr0) (by simpa using hc0) (C_toV hr1) (by simpa using hc1) hT
  rw [List.length_map, List.length_map] at this
  exact this
def hayloftref14_All.f (l0 : List (S45)) (l1 : List (S43)) : Option (Bool) := some (allS l0 l1)
theorem hayloftref14_All.calls (A0 : Option Addr) (c0 : Nat) (l0 : List (S45)) (A1 : Option Addr) (c1 : Nat) (l1 : List (S43)) (r : Bool) (w : World) (hr0 : Kd.C k45 w A0 l0.length l0) (hc0 : l0.length ≤ c0) (hr1 : Kd.C k43 w A1 l1.length l1) (hc1 : l1.length ≤ c1) (h : hayloftref14_All.f l0 l1 = some r) :
    Calls Tryd.prog 22 #[.slice A0 l0.length c0, .slice A1 l1.length c1] w fun e w' => e = .returned (.bool r) ∧ Below w.heap.size w w' := by
  obtain rfl := Option.some.inj h
  have := ref_all A0 (l0.map toT) c0 A1 (l1.map toV) c1 w (C_toT hr0) (by simpa using hc0) (C_toV hr1) (by simpa using hc1)
  rw [List.length_map, List.length_map] at this
  exact this
end Go.Proofs.YtghblnldokpceaaDoor.QV
/- exec.Filter: what its iterator gives. -/
namespace Go.Proofs.YtghblnldokpceaaDoor.QV
open Go.RowKit Go.Proofs.YtghblnldokpceaaDoorW.PrintWords Go.Proofs.YtghblnldokpceaaDoor.Seq Go.Shelf Go.Proofs.YtghblnldokpceaaDoor.Op
set_option linter.unusedVariables false
set_option linter.unusedSimpArgs false
attribute [local go_sem] Oper.semAt_some
abbrev kTm : Kd S45 := k45

set_option maxRecDepth 100000 in
set_option maxHeartbeats 4000000 in
theorem filter_seq (xs : List Row) (ts : List S45) (At : Option Addr) (ct : Nat) (sv : Value) (b1 b2 : Nat) (w : World) (hR : IsSeq w sv xs)
    (h1 : w.cell? ⟨b1, 0, none⟩ = some sv) (h2 : w.cell? ⟨b2, 0, none⟩ = some (.slice At ts.length ct)) (hts : kTm.C w At ts.length ts) (hct : ts.length ≤ ct) (hT : Tab w)
    (hb : ∀ x ∈ xs, x.length ≤ 1048576) :
    SeqOf Tryd.prog 18 #[.pointer (some ⟨b1, 0, none⟩), .pointer (some ⟨b2, 0, none⟩)] (RdNew w) (xs.filter (allS ts)) w := by
  intro l J Jx W Mc hW hMc hJ hJx hY h0
  have hcons : Cons Tryd.prog w W l J Jx Mc (xs.filter (allS ts)) := ⟨hW, hMc, hJ, hJx, hY⟩
  have hzw : w.heap.size ≤ W.heap.size := hW.size
  obtain ⟨gR, lbR, RdR, rfl, egR, hsR, hkR, hrR⟩ := hR
  refine (callsIn_wide (n := 0)).1 (callsIn_of_wp_marks Tryd.func18 rfl trivial ?_ rfl)
  simp only [Tryd.ntmps18, List.size_toArray, List.length_cons, List.length_nil, Nat.reduceAdd, Nat.reduceSub, Array.replicate_succ, Array.replicate_zero, List.push_toArray, List.append_toArray, List.nil_append, List.cons_append]
  have d1 : (W.alloc (.cells #[.func (.yield l) #[] #[]] 46)).cell? ⟨b1, 0, none⟩ = some (.func (.func gR) #[] lbR) := pw_cell_below (hW.trans ((below_alloc (Below.refl _ _) _).mono hzw)) h1
  gi_wp2
  obtain ⟨W1, hW1⟩ : ∃ W1, W.alloc (.cells #[.func (.yield l) #[] #[]] 46) = W1 := ⟨_, rfl⟩
  have hbW1 : Below W.heap.size W W1 := by rw [← hW1]; exact below_alloc (Below.refl _ _) _
  have hszW1 : W1.heap.size = W.heap.size + 1 := by rw [← hW1]; simp
  have hx3 : W1.heap[W.heap.size]? = some (.cells #[.func (.yield l) #[] #[]] 46 (0, 0)) := by rw [← hW1]; exact blk_new _ _
  rw [hW1]
  clear hW1 d1
  have hMcW : ∀ i, Mc i → i < W.heap.size := fun i h => (hMc i h).2
  have hbw1 : Below w.heap.size w W1 := hW.trans (hbW1.mono hzw)
  have hz1 : W.heap.size ≤ W1.heap.size := by omega
  refine wpIn_range (gf := gR) (lb := lbR) rfl egR hsR hbw1 (fun A N x vs h => by obtain ⟨Ad, c, rfl, _⟩ := hrR _ _ _ _ h; rfl) hkR
    (fun pre => J3 J Mc (fun _ => False) W W1 (pre.filter (allS ts))) (fun c pre Mh A => c = .ret ∧ ∃ y, y <+: xs.filter (allS ts) ∧ J3 Jx Mc (fun _ => False) W W1 y Mh A) (fun pre M A B h hk => h.kept hJ hz1 hk) (fun c pre M A B h hk => by obtain ⟨e, y, hy, h⟩ := h; exact ⟨e, y, hy, h.kept hJx hz1 hk⟩)
    (fun i => Mc i ∨ (W.heap.size ≤ i ∧ i < W1.heap.size)) ?hM2 ?h02 (fun x vs a₁ M A => ∃ v, vs = #[v] ∧ a₁ = { tmps := #[.func (.yield l) #[] #[], .pointer (some ⟨b1, 0, none⟩), .pointer (some ⟨b2, 0, none⟩), .pointer (some ⟨W.heap.size, 0, none⟩), v, .func (.func gR) #[] lbR, v] ++ Array.replicate 10 undef, defers := [] })
    (fun _ _ _ _ _ _ h _ => h) ?assign2 ?body2 ?done2 ?stop2
  case hM2 => intro i hi; rcases hi with h | h; have := hMc i h; omega; omega
  case h02 => exact ⟨Mc, hJ _ _ _ _ h0 (Kpt.of_new _ hbW1), fun i => Iff.rfl, fun i hi => ⟨.inl hi, by have := hMc i hi; omega⟩, Kpt.refl _ _⟩
  case assign2 =>
    intro l2 pre x vs N A M hI hpre hrd hM hN
    obtain ⟨Ad, c, rfl, hle, hC⟩ := hrR _ _ _ _ hrd
    gi_wp2
    refine ⟨M, fun i hi => ⟨.inl hi, (hM i hi).2⟩, Kpt.refl _ _, hI, _, rfl, ?_⟩
    simp only [List.size_toArray, List.length_cons, List.length_nil, Nat.reduceAdd, Nat.reduceSub, Array.replicate_succ, Array.replicate_zero, List.push_toArray, List.append_toArray, List.nil_append, List.cons_append]
  case body2 =>
    intro l2 pre x vs N A Mh a₁ hI hpre hrd hax hM hN
    obtain ⟨v, rfl, rfl⟩ := hax
    simp only [List.size_toArray, List.length_cons, List.length_nil, Nat.reduceAdd, Nat.reduceSub, Array.replicate_succ, Array.replicate_zero, List.push_toArray, List.append_toArray, List.nil_append, List.cons_append]
    obtain ⟨Ad, c, hvv, hle, hC⟩ := hrR _ _ _ _ hrd
    obtain rfl : v = .slice Ad x.length c := by simpa using hvv
    clear hvv
    have hx1 := hb x (hpre.subset (by simp))
    have hzA := hI.size
    have hbA : Below w.heap.size w A := hbw1.trans (hI.below (fun i h => (hMc i h).1) (fun _ h => h.elim) hbw1.size)
    have hKA : Kpt (fun i => Mc i ∨ False) W1 A := by obtain ⟨_, _, _, _, h⟩ := hI; exact h
    have hxA : A.heap[W.heap.size]? = some (.cells #[.func (.yield l) #[] #[]] 46 (0, 0)) := hKA.at hx3 (fun h => by rcases h with h | h; have := hMcW _ h; omega; exact h)
    have hlxA := blk_lt hxA
    have hsn := filter_snoc (allS ts) pre x
    have keep : ∀ V, Kpt (fun i => Mc i ∨ W1.heap.size ≤ i) A V → V.cell? ⟨b2, 0, none⟩ = some (.slice At ts.length ct) ∧ V.cell? ⟨W.heap.size, 0, none⟩ = some (.func (.yield l) #[] #[]) := fun V hV =>
      ⟨pw_cell_below (hbA.trans (hV.below hbA.size (fun i _ h => by rcases h with h | h; exact (hMc i h).1; omega))) h2, blk_cell (hV.at hxA (fun h => by rcases h with h | h; have := hMcW _ h; omega; omega)) 0⟩
    have kb : ∀ V, Below A.heap.size A V → Kpt (fun i => Mc i ∨ W1.heap.size ≤ i) A V := fun V hV => Kpt.of_new _ hV
    gi_wp2
    refine wpIn_region_R 10 (S := fun V => V.cell? ⟨b2, 0, none⟩ = some (.slice At ts.length ct) ∧ V.cell? ⟨W.heap.size, 0, none⟩ = some (.func (.yield l) #[] #[])) (by kernel_rfl) (keep _ (kb _ (below_drew (Below.refl _ _)))) (fun hS0 => ?_)
    refine wpAnyR_take (i := 0) (oi := ⟨some 7, _, _, _, _, _⟩) (v := ?_) (by kernel_rfl) (by kernel_rfl) rfl (by kernel_rfl) (by kernel_rfl) (by kernel_rfl) (fun _ _ _ h => h) (Or.inl ⟨by rfl, ?_⟩) (by assumption) ?_
    rotate_left
    · intro w hSw; (try dsimp only at hSw); (try go_split_ands); go_simp; (try (with_reducible rfl))
    (try simp only [Act.put, List.setIfInBounds_toArray, List.set_cons_zero, List.set_cons_succ])
    refine wpAnyR_take (i := 1) (oi := ⟨some 8, _, _, _, _, _⟩) (v := ?_) (by kernel_rfl) (by kernel_rfl) rfl (by kernel_rfl) (by kernel_rfl) (by kernel_rfl) (fun _ _ _ h => h) (Or.inl ⟨by rfl, ?_⟩) (by assumption) ?_
    rotate_left
    · intro w hSw; (try dsimp only at hSw); (try go_split_ands); go_simp; (try (with_reducible rfl))
    (try simp only [Act.put, List.setIfInBounds_toArray, List.set_cons_zero, List.set_cons_succ])
    refine wpAnyR_one (i := 2) (o := ⟨some 9, _, _, _, _, _⟩) (by kernel_rfl) (by kernel_rfl) rfl (fun K hK => ?_)
    go_simp
    have hbd : Below w.heap.size w A.drew := hbA.trans ((below_drew (Below.refl _ A)).mono hbA.size)
    refine (allS_any At ct ts Ad c x A.drew (Kd.C_below hts hbd) hct (Kd.C_drew hC) hle (hT.below hbd)).mono ?_
    rintro e W2 ⟨rfl, hb2⟩
    have hb2A : Below A.heap.size A W2 := (below_drew (Below.refl _ A)).trans hb2
    (try dsimp only)
    have hS2 := keep _ (kb _ hb2A)
    refine hK.out _ _ (.inr hS2) ?_
    clear hK K
    cases hal : allS ts x with
    | true =>
      (try simp only [Act.put, List.setIfInBounds_toArray, List.set_cons_zero, List.set_cons_succ])
      refine wpAnyR_take (i := 3) (oi := ⟨some 10, _, _, _, _, _⟩) (v := ?_) (by kernel_rfl) (by kernel_rfl) rfl (by kernel_rfl) (by kernel_rfl) (by kernel_rfl) (fun _ _ _ h => h) (Or.inl ⟨by rfl, ?_⟩) (by assumption) ?_
      rotate_left
      · intro w hSw; (try dsimp only at hSw); (try go_split_ands); go_simp; (try (with_reducible rfl))
      (try simp only [Act.put, List.setIfInBounds_toArray, List.set_cons_zero, List.set_cons_succ])
      refine wpAnyR_take (i := 4) (oi := ⟨some 11, _, _, _, _, _⟩) (v := ?_) (by kernel_rfl) (by kernel_rfl) rfl (by kernel_rfl) (by kernel_rfl) (by kernel_rfl) (fun _ _ _ h => h) (Or.inl ⟨by rfl, ?_⟩) (by assumption) ?_
      rotate_left
      · intro w hSw; (try dsimp only at hSw); (try go_split_ands); go_simp; (try (with_reducible rfl))
      (try simp only [Act.put, List.setIfInBounds_toArray, List.set_cons_zero, List.set_cons_succ])
      refine wpAnyR_take (i := 5) (oi := ⟨some 12, _, _, _, _, _⟩) (v := ?_) (by kernel_rfl) (by kernel_rfl) rfl (by kernel_rfl) (by kernel_rfl) (by kernel_rfl) (fun _ _ _ h => h) (Or.inl ⟨by rfl, ?_⟩) (by assumption) ?_
      rotate_left
      · intro w hSw; (try dsimp only at hSw); (try go_split_ands); go_simp; (try (with_reducible rfl))
      (try simp only [Act.put, List.setIfInBounds_toArray, List.set_cons_zero, List.set_cons_succ])
      refine wpAnyR_one (i := 6) (o := ⟨some 13, _, _, _, _, _⟩) (by kernel_rfl) (by kernel_rfl) rfl (fun K hK => ?_)
      go_simp
      refine (clone_any Ad x c W2 (Kd.C_below hC hb2A) hle (by omega)).mono ?_
      rintro e W3 ⟨v3, rfl, hR3, hb3⟩
      have hb3A : Below A.heap.size A W3 := hb2A.trans (hb3.mono hb2A.size)
      have hS3 := keep _ (kb _ hb3A)
      refine hK.out _ _ (.inr hS3) ?_
      clear hK K
      (try simp only [Act.put, List.setIfInBounds_toArray, List.set_cons_zero, List.set_cons_succ])
      rw [hal, if_pos rfl] at hsn
      have hpp : (pre ++ [x]).filter (allS ts) <+: xs.filter (allS ts) := hpre.filter _
      rw [hsn] at hpp
      obtain ⟨fn, tmps, assign, body, hy, hRn⟩ := hI.yield hcons hz1 hb3A (Kd.R_lower hR3 hb2A.size) hpp
      refine wpAnyR_oneIn (i := 7) (o := ⟨some 14, _, _, _, _, _⟩) (by kernel_rfl) rfl (fun K hK => ?_)
      rw [if_pos (by rfl)]
      refine ⟨fun _ _ => trivial, ?_⟩
      go_simp
      refine ⟨rfl, round_in _ (hRn.mono ?_)⟩
      rintro e W4 ⟨M4, hM4, hk4, hk4', (⟨rfl, hJ4⟩ | ⟨rfl, hJ4⟩)⟩
      · have hS4 := keep _ hk4'
        refine hK.out _ _ (.inr hS4) ?_
        clear hK K
        (try simp only [Act.put, List.setIfInBounds_toArray, List.set_cons_zero, List.set_cons_succ])
        refine wpAnyR_take (i := 8) (oi := ⟨some 15, _, _, _, _, _⟩) (v := ?_) (by kernel_rfl) (by kernel_rfl) rfl (by kernel_rfl) (by kernel_rfl) (by kernel_rfl) (fun _ _ _ h => h) (Or.inl ⟨by rfl, ?_⟩) (by assumption) ?_
        rotate_left
        · intro w hSw; (try dsimp only at hSw); (try go_split_ands); go_simp; (try (with_reducible rfl))
        (try simp only [Act.put, List.setIfInBounds_toArray, List.set_cons_zero, List.set_cons_succ])
        refine wpAnyR_take (i := 9) (oi := ⟨some 16, _, _, _, _, _⟩) (v := ?_) (by kernel_rfl) (by kernel_rfl) rfl (by kernel_rfl) (by kernel_rfl) (by kernel_rfl) (fun _ _ _ h => h) (Or.inl ⟨by rfl, ?_⟩) (by assumption) ?_
        rotate_left
        · intro w hSw; (try dsimp only at hSw); (try go_split_ands); go_simp; (try (with_reducible rfl))
        (try simp only [Act.put, List.setIfInBounds_toArray, List.set_cons_zero, List.set_cons_succ])
        refine wpAnyR_done (by kernel_rfl) ?_ _
        gi_wp2
        refine ⟨M4, fun i hi => ⟨by rcases (hM4 i hi).1 with h | h; exact .inl h; exact .inr (.inr h), (hM4 i hi).2⟩, hk4.mono (fun _ _ h => .inl h), ?_⟩
        show J3 J Mc _ W W1 ((pre ++ [x]).filter (allS ts)) M4 W4
        rw [hsn]
        exact hJ4
      · have hS4 := keep _ hk4'
        refine hK.out _ _ (.inr hS4) ?_
        clear hK K
        (try simp only [Act.put, List.setIfInBounds_toArray, List.set_cons_zero, List.set_cons_succ])
        refine wpAnyR_take (i := 8) (oi := ⟨some 15, _, _, _, _, _⟩) (v := ?_) (by kernel_rfl) (by kernel_rfl) rfl (by kernel_rfl) (by kernel_rfl) (by kernel_rfl) (fun _ _ _ h => h) (Or.inl ⟨by rfl, ?_⟩) (by assumption) ?_
        rotate_left
        · intro w hSw; (try dsimp only at hSw); (try go_split_ands); go_simp; (try (with_reducible rfl))
        (try simp only [Act.put, List.setIfInBounds_toArray, List.set_cons_zero, List.set_cons_succ])
        refine wpAnyR_take (i := 9) (oi := ⟨some 16, _, _, _, _, _⟩) (v := ?_) (by kernel_rfl) (by kernel_rfl) rfl (by kernel_rfl) (by kernel_rfl) (by kernel_rfl) (fun _ _ _ h => h) (Or.inl ⟨by rfl, ?_⟩) (by assumption) ?_
        rotate_left
        · intro w hSw; (try dsimp only at hSw); (try go_split_ands); go_simp; (try (with_reducible rfl))
        (try simp only [Act.put, List.setIfInBounds_toArray, List.set_cons_zero, List.set_cons_succ])
        refine wpAnyR_done (by kernel_rfl) ?_ _
        gi_wp2
        refine ⟨M4, fun i hi => ⟨by rcases (hM4 i hi).1 with h | h; exact .inl h; exact .inr (.inr h), (hM4 i hi).2⟩, hk4.mono (fun _ _ h => .inl h), ?_⟩
        exact ⟨rfl, _, hpp, hJ4⟩
    | false =>
      (try simp only [Act.put, List.setIfInBounds_toArray, List.set_cons_zero, List.set_cons_succ])
      refine wpAnyR_take (i := 3) (oi := ⟨some 10, _, _, _, _, _⟩) (v := ?_) (by kernel_rfl) (by kernel_rfl) rfl (by kernel_rfl) (by kernel_rfl) (by kernel_rfl) (fun _ _ _ h => h) (Or.inl ⟨by rfl, ?_⟩) (by assumption) ?_
      rotate_left
      · intro w hSw; (try dsimp only at hSw); (try go_split_ands); go_simp; (try (with_reducible rfl))
      (try simp only [Act.put, List.setIfInBounds_toArray, List.set_cons_zero, List.set_cons_succ])
      refine wpAnyR_take (i := 4) (oi := ⟨some 11, _, _, _, _, _⟩) (v := undef) (by kernel_rfl) (by kernel_rfl) rfl (by kernel_rfl) (by kernel_rfl) (by kernel_rfl) (fun _ _ _ h => h) (Or.inr ⟨by rfl, rfl⟩) (by assumption) ?_
      (try simp only [Act.put, List.setIfInBounds_toArray, List.set_cons_zero, List.set_cons_succ])
      refine wpAnyR_take (i := 5) (oi := ⟨some 12, _, _, _, _, _⟩) (v := undef) (by kernel_rfl) (by kernel_rfl) rfl (by kernel_rfl) (by kernel_rfl) (by kernel_rfl) (fun _ _ _ h => h) (Or.inr ⟨by rfl, rfl⟩) (by assumption) ?_
      (try simp only [Act.put, List.setIfInBounds_toArray, List.set_cons_zero, List.set_cons_succ])
      refine wpAnyR_take (i := 6) (oi := ⟨some 13, _, _, _, _, _⟩) (v := undef) (by kernel_rfl) (by kernel_rfl) rfl (by kernel_rfl) (by kernel_rfl) (by kernel_rfl) (fun _ _ _ h => h) (Or.inr ⟨by rfl, rfl⟩) (by assumption) ?_
      (try simp only [Act.put, List.setIfInBounds_toArray, List.set_cons_zero, List.set_cons_succ])
      refine wpAnyR_take (i := 7) (oi := ⟨some 14, _, _, _, _, _⟩) (v := undef) (by kernel_rfl) (by kernel_rfl) rfl (by kernel_rfl) (by kernel_rfl) (by kernel_rfl) (fun _ _ _ h => h) (Or.inr ⟨by rfl, rfl⟩) (by assumption) ?_
      (try simp only [Act.put, List.setIfInBounds_toArray, List.set_cons_zero, List.set_cons_succ])
      refine wpAnyR_take (i := 8) (oi := ⟨some 15, _, _, _, _, _⟩) (v := undef) (by kernel_rfl) (by kernel_rfl) rfl (by kernel_rfl) (by kernel_rfl) (by kernel_rfl) (fun _ _ _ h => h) (Or.inr ⟨by rfl, rfl⟩) (by assumption) ?_
      (try simp only [Act.put, List.setIfInBounds_toArray, List.set_cons_zero, List.set_cons_succ])
      refine wpAnyR_take (i := 9) (oi := ⟨some 16, _, _, _, _, _⟩) (v := ?_) (by kernel_rfl) (by kernel_rfl) rfl (by kernel_rfl) (by kernel_rfl) (by kernel_rfl) (fun _ _ _ h => h) (Or.inl ⟨by rfl, ?_⟩) (by assumption) ?_
      rotate_left
      · intro w hSw; (try dsimp only at hSw); (try go_split_ands); go_simp; (try (with_reducible rfl))
      (try simp only [Act.put, List.setIfInBounds_toArray, List.set_cons_zero, List.set_cons_succ])
      refine wpAnyR_done (by kernel_rfl) ?_ _
      gi_wp2
      refine ⟨Mh, fun i hi => ⟨.inl hi, Nat.lt_of_lt_of_le (hM i hi).2 hb2A.size⟩, Kpt.of_new _ hb2A, ?_⟩
      show J3 J Mc _ W W1 ((pre ++ [x]).filter (allS ts)) Mh W2
      rw [hsn, hal, if_neg (by simp)]
      exact hI.kept hJ hz1 (Kpt.of_new _ hb2A)
  case done2 =>
    intro D2 W3 M3 hI3 hk3 hM3 hD3 hDw3 hDM3
    gi_wp2
    refine ⟨by simp, .inl ⟨_, _, rfl, run_takeDeferred hD3, ?_⟩⟩
    obtain ⟨M4, h41, h42, h43⟩ := hI3.ends hJ hMcW (fun _ h => h.elim) hbW1 (Nat.le_trans hz1 hDw3) (fun _ => hDM3) (o := .deferred none)
    exact ⟨_, results_none rfl _ _ _, ⟨_, rfl⟩, M4, h41, h42, .inl h43⟩
  case stop2 =>
    intro D2 c pre W3 M3 hpre hI3 hk3 hM3 hD3 hDw3 hDM3
    obtain ⟨rfl, y, hy, hI3⟩ := hI3
    gi_wp2
    refine ⟨by simp, .inl ⟨_, _, rfl, run_takeDeferred hD3, ?_⟩⟩
    obtain ⟨M4, h41, h42, h43⟩ := hI3.ends hJx hMcW (fun _ h => h.elim) hbW1 (Nat.le_trans hz1 hDw3) (fun _ => hDM3) (o := .deferred none)
    exact ⟨_, results_none rfl _ _ _, ⟨_, rfl⟩, M4, h41, h42, .inr ⟨y, hy, h43⟩⟩
end Go.Proofs.YtghblnldokpceaaDoor.QV
/- Printed by mp.py (this session's) with the kit's print: plain functions with the answers of the Go code, and the proofs of it. -/
namespace Go.Proofs.YtghblnldokpceaaDoor.QV
open Go.RowKit Go.Proofs.YtghblnldokpceaaDoorW.PrintWords Go.Proofs.YtghblnldokpceaaDoorW.PrintLast Go.Proofs.YtghblnldokpceaaDoorW.PrintMore
attribute [local go_sem] max2_int min2_int max_two min_two max_three min_three max_four min_four   -- for this text's walks alone
set_option linter.unusedVariables false
set_option linter.unusedSimpArgs false

/-! ### hayloftref15_Filter: function 9 -/
def hayloftref15_Filter.l0 : Nat → List (List (S43)) → List (S45) → List (List (S43)) → Int → Option ((List (List (S43))))
  | 0, _, _, _, _ => none
  | k + 1, x0, x1, x5, x6 => if x6 < (x0.length : Int) then (if 0 ≤ x6 then ((hayloftref14_All.f x1 (rd_L4 x0 x6)).bind fun t149 => (if t149 = true then (if x5.length < 5864062014805 then (hayloftref15_Filter.l0 k x0 x1 (x5 ++ [rd_L4 x0 x6]) (wrap64 (x6 + 1))) else (none)) else (hayloftref15_Filter.l0 k x0 x1 x5 (wrap64 (x6 + 1))))) else (none)) else (some x5)
def hayloftref15_Filter.f (k : Nat) (l0 : List (List (S43))) (l1 : List (S45)) : Option ((List (List (S43)))) := hayloftref15_Filter.l0 k l0 l1 ([] : List (List (S43))) 0
theorem hayloftref15_Filter.mono_l : ∀ k, (∀ y0 y1 y2 y3, LeO (hayloftref15_Filter.l0 k y0 y1 y2 y3) (hayloftref15_Filter.l0 (k + 1) y0 y1 y2 y3))
  | 0 => fun _ _ _ _ r h => by simp [hayloftref15_Filter.l0] at h
  | k + 1 => by
    have ih0 := hayloftref15_Filter.mono_l k
    · intro y0 y1 y2 y3
      unfold hayloftref15_Filter.l0
      repeat' first
      | (with_reducible exact ih0 _ _ _ _)
      | (with_reducible exact LeO.refl _)
      | (with_reducible exact LeO.none _)
      | (with_reducible refine LeO.ite ?_ ?_)
      | (with_reducible refine LeO.bind ?_ (fun _ => ?_))
      | exact ih0 _ _ _ _
      | exact LeO.none _
      | refine LeO.ite ?_ ?_
      | refine LeO.bind ?_ (fun _ => ?_)
theorem hayloftref15_Filter.mono : ∀ a0 a1 k, LeO (hayloftref15_Filter.f k a0 a1) (hayloftref15_Filter.f (k + 1) a0 a1) := by
  intro a0 a1 k
  have ih0 := hayloftref15_Filter.mono_l k
  unfold hayloftref15_Filter.f
  repeat' first
      | (with_reducible exact ih0 _ _ _ _)
      | (with_reducible exact LeO.refl _)
      | (with_reducible exact LeO.none _)
      | (with_reducible refine LeO.ite ?_ ?_)
      | (with_reducible refine LeO.bind ?_ (fun _ => ?_))
      | exact ih0 _ _ _ _
      | exact LeO.none _
      | refine LeO.ite ?_ ?_
      | refine LeO.bind ?_ (fun _ => ?_)
set_option maxHeartbeats 8000000 in
set_option maxRecDepth 100000 in
theorem hayloftref15_Filter.calls (k : Nat) (P0_ : Nat → Prop) (A0 : Option Addr) (c0 : Nat) (l0 : List (List (S43))) (A1 : Option Addr) (c1 : Nat) (l1 : List (S45)) (r : List (List (S43))) (w : World) (hs0 : Kd.V (Kd.slice 43 k43) 31 w w.heap.size (fun k_ => P0_ k_) (.slice A0 l0.length c0) l0) (hr1 : Kd.C k45 w A1 l1.length l1) (hc1 : l1.length ≤ c1) (h : hayloftref15_Filter.f k l0 l1 = some r) :
    Calls Tryd.prog 9 #[.slice A0 l0.length c0, .slice A1 l1.length c1] w fun e w' => ∃ v0_ : Value, e = .returned (v0_) ∧ Kd.N (Kd.slice 43 k43) 31 w' w.heap.size (fun k_ => (P0_ k_ ∨ w.heap.size ≤ k_)) v0_ r ∧ Below w.heap.size w w' := by
  have HO0 := Aside0.mk (show Kd.V (Kd.slice 43 k43) 31 w w.heap.size (fun k_ => (P0_ k_ ∨ w.heap.size ≤ k_)) (.slice A0 l0.length c0) l0 from Kd.V_mono hs0 (fun k_ hk => .inl hk))
  have HR1 := Aside0.mk hr1
  have HC1 := Aside0.mk hc1
  clear hr1 hc1
  have HB := Aside0.mk (Below.refl w.heap.size w)
  have H : (hayloftref15_Filter.l0 k l0 l1 ([] : List (List (S43))) 0) = some r := h
  clear h
  have H' := Aside0.mk H
  clear H
  go_enter Tryd.func9, Tryd.ntmps9
  go_wp2
  go_loopg [5, 6] k (fun kq v5 v6 w' => ∃ (x5_1 : List (List (S43))) (x6_1 : Int), v6 = .int .i64 x6_1 ∧ Aside0 (hayloftref15_Filter.l0 kq l0 l1 x5_1 x6_1 = some r) ∧ Aside0 (kq ≤ k) ∧ Aside0 (Kd.V (Kd.slice 43 k43) 31 w' w.heap.size (fun k_ => (P0_ k_ ∨ w.heap.size ≤ k_) ∧ some k_ ≠ (v5 : Value).ownBlock) (.slice A0 l0.length c0) l0) ∧ Aside0 (Kd.N (Kd.slice 43 k43) 31 w' w.heap.size (fun k_ => (P0_ k_ ∨ w.heap.size ≤ k_)) v5 x5_1) ∧ Aside0 (Below w.heap.size w w'))
  case atStart => exact ⟨(([] : List (List (S43)))), (0), (by first | rfl | (simp; done) | (simp [*]; done)), H', ⟨Nat.le_refl _⟩, ⟨by (with_reducible repeat (first | apply Kd.V_alloc | apply Kd.V_drewN | apply Kd.V_drew)); exact Kd.V_mono HO0.out (fun _ hk => ⟨hk, (by simp [Value.ownBlock])⟩)⟩, ⟨by first | exact Kd.S_nil _ _ _ _ _ | exact Kd.N_nil _ _ _ _ _ | exact Kd.V_nil _ _ _ _ _ | exact Kd.Q_nil _ _ _ _ _ | exact Kd.R_nil _ _ _ _ _⟩, ⟨by repeat (first | (with_reducible first | exact HB.out | apply below_alloc | apply pw_below_drewN | apply below_drew1) | exact HB.out)⟩⟩
  case round =>
    clear H'
    try clear c1
    try clear p2
    obtain ⟨x5_1, x6_1, rfl, HA, HK1, HO_0, HO_5, HB⟩ := hrel
    cases gk with
    | zero => exact absurd HA.out (by simp [hayloftref15_Filter.l0])
    | succ k1 =>
      have H := HA.out
      clear HA
      simp only [hayloftref15_Filter.l0] at H
      by_cases c3 : x6_1 < (l0.length : Int)
      · rw [if_pos c3] at H
        have c3b0 : decide (x6_1 < (l0.length : Int)) = true := decide_eq_true c3
        clear c3
        by_cases c4 : 0 ≤ x6_1
        · rw [if_pos c4] at H
          have c4b0 : decide (0 ≤ x6_1) = true := decide_eq_true c4
          clear c4
          replace H := Option.bind_eq_some_iff.mp H
          obtain ⟨t149, A50, H⟩ := H
          replace H : (if t149 = true then (if x5_1.length < 5864062014805 then (hayloftref15_Filter.l0 k1 l0 l1 (x5_1 ++ [rd_L4 l0 x6_1]) (wrap64 (x6_1 + 1))) else (none)) else (hayloftref15_Filter.l0 k1 l0 l1 x5_1 (wrap64 (x6_1 + 1)))) = some r := H
          have A5 := Aside0.mk A50
          clear A50
          by_cases c6 : t149 = true
          · subst c6
            have H1 : (if x5_1.length < 5864062014805 then (hayloftref15_Filter.l0 k1 l0 l1 (x5_1 ++ [rd_L4 l0 x6_1]) (wrap64 (x6_1 + 1))) else (none)) = some r := by rw [if_pos rfl] at H; exact H
            clear H
            have H := H1
            clear H1
            by_cases c7 : x5_1.length < 5864062014805
            · rw [if_pos c7] at H
              have LMc7 := Aside0.mk c7
              clear c7
              obtain ⟨y151, hy151⟩ : ∃ y_ : List (List (S43)), y_ = (x5_1 ++ [rd_L4 l0 x6_1]) := ⟨_, rfl⟩
              replace H : (hayloftref15_Filter.l0 k1 l0 l1 y151 (wrap64 (x6_1 + 1))) = some r := by first | (rw [hy151]; with_reducible exact H) | (have H2_ := (Option.bind_some _ _).symm.trans H; rw [hy151]; with_reducible exact H2_) | (have H2_ := (Option.bind_some _ _).symm.trans H; with_reducible exact H2_) | with_reducible exact H | (rw [hy151]; exact H) | exact H
              have Ny151 := Aside0.mk hy151
              clear hy151
              have H' := Aside0.mk H
              clear H
              have p148 : 0 ≤ (x6_1 : Int) := of_decide_eq_true (by first | (with_reducible assumption) | assumption)
              have q148 : x6_1 < (l0.length : Int) := of_decide_eq_true (by first | (with_reducible assumption) | assumption)
              obtain ⟨ad148, A148_0, c148_0, e148, hx148_0, hl148_0, hi148_0⟩ := at_L4 (Kd.V_reads' HO_0.out).2.2 x6_1 p148 q148
              cases e148
              obtain ⟨ce148, hce148, hMe148, hcc148⟩ := Kd.V_get HO_0.out [] x6_1 p148 (by first | exact q148 | exact of_decide_eq_true (by first | (with_reducible assumption) | assumption) | (have e_ := (Kd.V_reads' HO_0.out).1; omega))
              obtain ⟨ua148_0, uc148_0, rfl, ul148_0, ge148_0⟩ := Kd.FK_slice_open hMe148
              have hv148_0 := hcc148 0 _ rfl
              rw [Nat.add_zero, show ((Kd.slice 43 k43)).sz = 1 from rfl, Nat.mul_one] at hv148_0
              replace hv148_0 := Option.some.inj (hv148_0.symm.trans hx148_0)
              injection hv148_0 with hva_ hvn_ hvc_
              rw [hva_] at ge148_0
              rw [hvc_] at ul148_0
              have HL148_0 := Aside0.mk (show Kd.V k43 43 _ w.heap.size _ _ (rd_L4 l0 x6_1) from Kd.V_mk ul148_0 ge148_0)
              clear hva_ hvn_ hvc_ ge148_0 ul148_0
              clear hcc148 hce148
              have HR148_0 := Aside0.mk hi148_0
              have HC148_0 := Aside0.mk hl148_0
              clear hi148_0 hl148_0
              replace p148 := eq_true p148
              replace q148 := eq_true q148
              go_wp2_with (first | ((with_reducible refine gate_callee (f := 22) rfl ?_); refine goesL_ (some 19) rfl rfl Tryd.func22 (by kernel_rfl) rfl #[.slice A1 l1.length c1, .slice A148_0 (rd_L4 l0 x6_1).length c148_0] rfl (by (try simp only [List.map_toArray, List.map_cons, List.map_nil]); first | done | rfl | (simp only [List.length_drop, List.length_take]; rfl)) ?_; (with_reducible refine (hayloftref14_All.calls _ _ l1 _ _ (rd_L4 l0 x6_1) true _ ?side1 ?side2 ?side3 ?side4 A5.out).mono ?_); (case side1 => repeat (first | exact (Kd.C_below HR1.out HB.out) | (with_reducible refine Kd.C_alloc ?_ _) | (with_reducible refine Kd.C_drewN ?_ _) | (with_reducible refine Kd.C_drew ?_))); (case side2 => exact HC1.out); (case side3 => repeat (first | exact (by repeat (first | (with_reducible exact HR148_0.out) | (with_reducible refine Kd.C_alloc ?_ _) | (with_reducible refine Kd.C_drewN ?_ _) | (with_reducible refine Kd.C_drew ?_) | exact HR148_0.out)) | (with_reducible refine Kd.C_alloc ?_ _) | (with_reducible refine Kd.C_drewN ?_ _) | (with_reducible refine Kd.C_drew ?_))); (case side4 => exact HC148_0.out); rintro e w8 ⟨rfl, hb⟩; refine ⟨_, rfl, ?_⟩; have n0_ := Aside0.mk (Kd.V_below (by (with_reducible repeat (first | apply Kd.V_alloc | apply Kd.V_drewN | apply Kd.V_drew)); exact HO_0.out) hb); have n1_ := Aside0.mk (Kd.N_below (by (with_reducible repeat (first | apply Kd.N_alloc | apply Kd.N_drewN | apply Kd.N_drew)); exact HO_5.out) hb); have n2_ := Aside0.mk (Kd.V_below (by (with_reducible repeat (first | apply Kd.V_alloc | apply Kd.V_drewN | apply Kd.V_drew)); exact HL148_0.out) hb); have n3_ := Aside0.mk (Kd.C_below (by repeat (first | (with_reducible exact HR148_0.out) | (with_reducible refine Kd.C_alloc ?_ _) | (with_reducible refine Kd.C_drewN ?_ _) | (with_reducible refine Kd.C_drew ?_) | exact HR148_0.out)) hb); have n4_ := Aside0.mk (below_step (by repeat (first | (with_reducible first | exact HB.out | apply below_alloc | apply pw_below_drewN | apply below_drew1) | exact HB.out)) hb); clear HO_0; clear HO_5; clear HL148_0; clear HR148_0; clear HB; have HO_0 := n0_; have HO_5 := n1_; have HL148_0 := n2_; have HR148_0 := n3_; have HB := n4_; clear n0_ n1_ n2_ n3_ n4_; (try clear hb); (try clear hb2); (try clear hk); (try clear hi); have p150 : 0 ≤ (x6_1 : Int) := of_decide_eq_true (by first | (with_reducible assumption) | assumption); have q150 : x6_1 < (l0.length : Int) := of_decide_eq_true (by first | (with_reducible assumption) | assumption); obtain ⟨ad150, A150_0, c150_0, e150, hx150_0, hl150_0, hi150_0⟩ := at_L4 (Kd.V_reads' HO_0.out).2.2 x6_1 p150 q150; obtain rfl : ad148 = ad150 := (by injection e150); obtain ⟨ce150, hce150, hMe150, hcc150⟩ := Kd.V_get HO_0.out [] x6_1 p150 (by first | exact q150 | exact of_decide_eq_true (by first | (with_reducible assumption) | assumption) | (have e_ := (Kd.V_reads' HO_0.out).1; omega)); obtain ⟨ua150_0, uc150_0, rfl, ul150_0, ge150_0⟩ := Kd.FK_slice_open hMe150; have hv150_0 := hcc150 0 _ rfl; rw [Nat.add_zero, show ((Kd.slice 43 k43)).sz = 1 from rfl, Nat.mul_one] at hv150_0; replace hv150_0 := Option.some.inj (hv150_0.symm.trans hx150_0); injection hv150_0 with hva_ hvn_ hvc_; rw [hva_] at ge150_0; rw [hvc_] at ul150_0; have HL150_0 := Aside0.mk (show Kd.V k43 43 _ w.heap.size _ _ (rd_L4 l0 x6_1) from Kd.V_mk ul150_0 ge150_0); clear hva_ hvn_ hvc_ ge150_0 ul150_0; clear hcc150 hce150; have HR150_0 := Aside0.mk hi150_0; have HC150_0 := Aside0.mk hl150_0; clear hi150_0 hl150_0; replace p150 := eq_true p150; replace q150 := eq_true q150) | ((with_reducible refine gate_builtin (b := .append) (xs := #[.tmp 21, .tmp 26]) rfl ?_); at_builtin; refine Kd.N_append (Kd.slice 43 k43) (w0 := w) w.heap.size rfl (.tmp 21) (.tmp 26) 22 31 (.slice none 0 0) 24 rfl Tryd.underlying22 info31 rfl (by decide) (by omega) u5 x5_1 (rd_L4 l0 x6_1) [.slice A150_0 (rd_L4 l0 x6_1).length c150_0] (fun k_ => (P0_ k_ ∨ w.heap.size ≤ k_)) (fun k_ => ((fun k_ => (P0_ k_ ∨ w.heap.size ≤ k_))) k_ ∧ some k_ ≠ (u5 : Value).ownBlock) rfl rfl ?aP (fun _ hk => hk) ?aF ?aO ?aB ?aS ?aL ?_; (case aP => exact (Kd.FK_slice_mk (Kd.V_reads' (Kd.V_mono (ok' := (fun k_ => ((fun k_ => (P0_ k_ ∨ w.heap.size ≤ k_))) k_ ∧ some k_ ≠ (u5 : Value).ownBlock)) (HL150_0.out) (fun k_ hk => ⟨hk.1, hk.2⟩))).2.1 (Kd.V_F (Kd.V_mono (ok' := (fun k_ => ((fun k_ => (P0_ k_ ∨ w.heap.size ≤ k_))) k_ ∧ some k_ ≠ (u5 : Value).ownBlock)) (HL150_0.out) (fun k_ hk => ⟨hk.1, hk.2⟩))))); (case aB => exact (by repeat (first | (with_reducible first | exact HB.out | apply below_alloc | apply pw_below_drewN | apply below_drew1) | exact HB.out))); (case aF => exact (fun k_ hk => (.inr (Nat.le_trans (below_size (by repeat (first | (with_reducible first | exact HB.out | apply below_alloc | apply pw_below_drewN | apply below_drew1) | exact HB.out))) hk)))); (case aO => exact (by (with_reducible repeat (first | apply Kd.N_alloc | apply Kd.N_drewN | apply Kd.N_drew)); exact HO_5.out)); (case aS => exact (below_size (by repeat (first | (with_reducible first | exact HB.out | apply below_alloc | apply pw_below_drewN | apply below_drew1) | exact HB.out)))); (case aL => have := LMc7.out; omega); intro v152 w9 ho hb hg hat; rw [← Ny151.out] at ho; have n0_ := Aside0.mk (Kd.V_afterv (ok := (fun k_ => (P0_ k_ ∨ w.heap.size ≤ k_))) (by (with_reducible repeat (first | apply Kd.V_alloc | apply Kd.V_drewN | apply Kd.V_drew)); exact HO_0.out) hg hat); have n1_ := Aside0.mk (Kd.V_afterv (ok := (fun k_ => (P0_ k_ ∨ w.heap.size ≤ k_))) (by (with_reducible repeat (first | apply Kd.V_alloc | apply Kd.V_drewN | apply Kd.V_drew)); exact HL148_0.out) hg hat); have n2_ := Aside0.mk (Kd.V_afterv (ok := (fun k_ => (P0_ k_ ∨ w.heap.size ≤ k_))) (by (with_reducible repeat (first | apply Kd.V_alloc | apply Kd.V_drewN | apply Kd.V_drew)); exact HL150_0.out) hg hat); have n3_ := Aside0.mk (hb); have n4_ := Aside0.mk (ho); clear HO_0; clear HL148_0; clear HL150_0; clear HB; clear HO_5; have HO_0 := n0_; have HL148_0 := n1_; have HL150_0 := n2_; have HB := n3_; have HO153 := n4_; clear n0_ n1_ n2_ n3_ n4_; clear ho hb hg hat))
              go_roundg k1
              case measure => have := HK1.out; omega
              case rel => exact ⟨(y151), (wrap64 (x6_1 + 1)), (by first | rfl | (simp; done) | (simp [*]; done)), H', ⟨by have := HK1.out; omega⟩, ⟨by (with_reducible repeat (first | apply Kd.V_alloc | apply Kd.V_drewN | apply Kd.V_drew)); exact HO_0.out⟩, ⟨by (with_reducible repeat (first | apply Kd.N_alloc | apply Kd.N_drewN | apply Kd.N_drew)); exact HO153.out⟩, ⟨by repeat (first | (with_reducible first | exact HB.out | apply below_alloc | apply pw_below_drewN | apply below_drew1) | exact HB.out)⟩⟩
            · rw [if_neg c7] at H
              exact absurd H (by simp)
          · replace c6 := Bool.eq_false_iff.mpr c6
            subst c6
            have H1 : (hayloftref15_Filter.l0 k1 l0 l1 x5_1 (wrap64 (x6_1 + 1))) = some r := by rw [if_neg (show ¬ (false = true) by decide)] at H; exact H
            clear H
            have H := H1
            clear H1
            have H' := Aside0.mk H
            clear H
            have p148 : 0 ≤ (x6_1 : Int) := of_decide_eq_true (by first | (with_reducible assumption) | assumption)
            have q148 : x6_1 < (l0.length : Int) := of_decide_eq_true (by first | (with_reducible assumption) | assumption)
            obtain ⟨ad148, A148_0, c148_0, e148, hx148_0, hl148_0, hi148_0⟩ := at_L4 (Kd.V_reads' HO_0.out).2.2 x6_1 p148 q148
            cases e148
            obtain ⟨ce148, hce148, hMe148, hcc148⟩ := Kd.V_get HO_0.out [] x6_1 p148 (by first | exact q148 | exact of_decide_eq_true (by first | (with_reducible assumption) | assumption) | (have e_ := (Kd.V_reads' HO_0.out).1; omega))
            obtain ⟨ua148_0, uc148_0, rfl, ul148_0, ge148_0⟩ := Kd.FK_slice_open hMe148
            have hv148_0 := hcc148 0 _ rfl
            rw [Nat.add_zero, show ((Kd.slice 43 k43)).sz = 1 from rfl, Nat.mul_one] at hv148_0
            replace hv148_0 := Option.some.inj (hv148_0.symm.trans hx148_0)
            injection hv148_0 with hva_ hvn_ hvc_
            rw [hva_] at ge148_0
            rw [hvc_] at ul148_0
            have HL148_0 := Aside0.mk (show Kd.V k43 43 _ w.heap.size _ _ (rd_L4 l0 x6_1) from Kd.V_mk ul148_0 ge148_0)
            clear hva_ hvn_ hvc_ ge148_0 ul148_0
            clear hcc148 hce148
            have HR148_0 := Aside0.mk hi148_0
            have HC148_0 := Aside0.mk hl148_0
            clear hi148_0 hl148_0
            replace p148 := eq_true p148
            replace q148 := eq_true q148
            go_wp2_with (first | ((with_reducible refine gate_callee (f := 22) rfl ?_); refine goesL_ (some 19) rfl rfl Tryd.func22 (by kernel_rfl) rfl #[.slice A1 l1.length c1, .slice A148_0 (rd_L4 l0 x6_1).length c148_0] rfl (by (try simp only [List.map_toArray, List.map_cons, List.map_nil]); first | done | rfl | (simp only [List.length_drop, List.length_take]; rfl)) ?_; (with_reducible refine (hayloftref14_All.calls _ _ l1 _ _ (rd_L4 l0 x6_1) false _ ?side1 ?side2 ?side3 ?side4 A5.out).mono ?_); (case side1 => repeat (first | exact (Kd.C_below HR1.out HB.out) | (with_reducible refine Kd.C_alloc ?_ _) | (with_reducible refine Kd.C_drewN ?_ _) | (with_reducible refine Kd.C_drew ?_))); (case side2 => exact HC1.out); (case side3 => repeat (first | exact (by repeat (first | (with_reducible exact HR148_0.out) | (with_reducible refine Kd.C_alloc ?_ _) | (with_reducible refine Kd.C_drewN ?_ _) | (with_reducible refine Kd.C_drew ?_) | exact HR148_0.out)) | (with_reducible refine Kd.C_alloc ?_ _) | (with_reducible refine Kd.C_drewN ?_ _) | (with_reducible refine Kd.C_drew ?_))); (case side4 => exact HC148_0.out); rintro e w10 ⟨rfl, hb⟩; refine ⟨_, rfl, ?_⟩; have n0_ := Aside0.mk (Kd.V_below (by (with_reducible repeat (first | apply Kd.V_alloc | apply Kd.V_drewN | apply Kd.V_drew)); exact HO_0.out) hb); have n1_ := Aside0.mk (Kd.N_below (by (with_reducible repeat (first | apply Kd.N_alloc | apply Kd.N_drewN | apply Kd.N_drew)); exact HO_5.out) hb); have n2_ := Aside0.mk (Kd.V_below (by (with_reducible repeat (first | apply Kd.V_alloc | apply Kd.V_drewN | apply Kd.V_drew)); exact HL148_0.out) hb); have n3_ := Aside0.mk (Kd.C_below (by repeat (first | (with_reducible exact HR148_0.out) | (with_reducible refine Kd.C_alloc ?_ _) | (with_reducible refine Kd.C_drewN ?_ _) | (with_reducible refine Kd.C_drew ?_) | exact HR148_0.out)) hb); have n4_ := Aside0.mk (below_step (by repeat (first | (with_reducible first | exact HB.out | apply below_alloc | apply pw_below_drewN | apply below_drew1) | exact HB.out)) hb); clear HO_0; clear HO_5; clear HL148_0; clear HR148_0; clear HB; have HO_0 := n0_; have HO_5 := n1_; have HL148_0 := n2_; have HR148_0 := n3_; have HB := n4_; clear n0_ n1_ n2_ n3_ n4_; (try clear hb); (try clear hb2); (try clear hk); (try clear hi)))
            go_roundg k1
            case measure => have := HK1.out; omega
            case rel => exact ⟨(x5_1), (wrap64 (x6_1 + 1)), (by first | rfl | (simp; done) | (simp [*]; done)), H', ⟨by have := HK1.out; omega⟩, ⟨by (with_reducible repeat (first | apply Kd.V_alloc | apply Kd.V_drewN | apply Kd.V_drew)); exact HO_0.out⟩, ⟨by (with_reducible repeat (first | apply Kd.N_alloc | apply Kd.N_drewN | apply Kd.N_drew)); exact HO_5.out⟩, ⟨by repeat (first | (with_reducible first | exact HB.out | apply below_alloc | apply pw_below_drewN | apply below_drew1) | exact HB.out)⟩⟩
        · rw [if_neg c4] at H
          exact absurd H (by simp)
      · rw [if_neg c3] at H
        have c3b0 : decide (x6_1 < (l0.length : Int)) = false := decide_eq_false c3
        clear c3
        obtain rfl := Option.some.inj H
        go_wp2
        go_ret
        exact ⟨_, by first | rfl | (simp [errW_none, errW_some] <;> rfl) | (simp [*, errW_none, errW_some] <;> rfl), by (with_reducible repeat (first | apply Kd.N_alloc | apply Kd.N_drewN | apply Kd.N_drew)); exact HO_5.out, by repeat (first | (with_reducible first | exact HB.out | apply below_alloc | apply pw_below_drewN | apply below_drew1) | exact HB.out)⟩

/-! ### hayloftref15_Project: function 11 -/
def hayloftref15_Project.l0 : Nat → List (List (S43)) → List Int → List (List (S43)) → Int → Option ((List (List (S43))))
  | 0, _, _, _, _ => none
  | k + 1, x0, x1, x5, x6 => if x6 < (x0.length : Int) then (if 0 ≤ x6 then ((hayloftref15_Pick.f k (rd_L4 x0 x6) x1).bind fun t155 => (if x5.length < 5864062014805 then (hayloftref15_Project.l0 k x0 x1 (x5 ++ [t155]) (wrap64 (x6 + 1))) else (none))) else (none)) else (some x5)
def hayloftref15_Project.f (k : Nat) (l0 : List (List (S43))) (l1 : List Int) : Option ((List (List (S43)))) := hayloftref15_Project.l0 k l0 l1 ([] : List (List (S43))) 0
theorem hayloftref15_Project.mono_l : ∀ k, (∀ y0 y1 y2 y3, LeO (hayloftref15_Project.l0 k y0 y1 y2 y3) (hayloftref15_Project.l0 (k + 1) y0 y1 y2 y3))
  | 0 => fun _ _ _ _ r h => by simp [hayloftref15_Project.l0] at h
  | k + 1 => by
    have ih0 := hayloftref15_Project.mono_l k
    · intro y0 y1 y2 y3
      unfold hayloftref15_Project.l0
      repeat' first
      | (with_reducible exact ih0 _ _ _ _)
      | (with_reducible exact hayloftref15_Pick.mono _ _ _)
      | (with_reducible exact LeO.refl _)
      | (with_reducible exact LeO.none _)
      | (with_reducible refine LeO.ite ?_ ?_)
      | (with_reducible refine LeO.bind ?_ (fun _ => ?_))
      | exact ih0 _ _ _ _
      | exact hayloftref15_Pick.mono _ _ _
      | exact LeO.none _
      | refine LeO.ite ?_ ?_
      | refine LeO.bind ?_ (fun _ => ?_)
theorem hayloftref15_Project.mono : ∀ a0 a1 k, LeO (hayloftref15_Project.f k a0 a1) (hayloftref15_Project.f (k + 1) a0 a1) := by
  intro a0 a1 k
  have ih0 := hayloftref15_Project.mono_l k
  unfold hayloftref15_Project.f
  repeat' first
      | (with_reducible exact ih0 _ _ _ _)
      | (with_reducible exact hayloftref15_Pick.mono _ _ _)
      | (with_reducible exact LeO.refl _)
      | (with_reducible exact LeO.none _)
      | (with_reducible refine LeO.ite ?_ ?_)
      | (with_reducible refine LeO.bind ?_ (fun _ => ?_))
      | exact ih0 _ _ _ _
      | exact hayloftref15_Pick.mono _ _ _
      | exact LeO.none _
      | refine LeO.ite ?_ ?_
      | refine LeO.bind ?_ (fun _ => ?_)
set_option maxHeartbeats 8000000 in
set_option maxRecDepth 100000 in
theorem hayloftref15_Project.calls (k : Nat) (A0 : Option Addr) (c0 : Nat) (l0 : List (List (S43))) (A1 : Option Addr) (c1 : Nat) (l1 : List Int) (r : List (List (S43))) (w : World) (hr0 : Kd.C (Kd.slice 43 k43) w A0 l0.length l0) (hc0 : l0.length ≤ c0) (hr1 : Kd.C (Kd.int .i64) w A1 l1.length l1) (hc1 : l1.length ≤ c1) (h : hayloftref15_Project.f k l0 l1 = some r) :
    Calls Tryd.prog 11 #[.slice A0 l0.length c0, .slice A1 l1.length c1] w fun e w' => ∃ v0_ : Value, e = .returned (v0_) ∧ Kd.S (Kd.slice 43 k43) 31 w' w.heap.size (fun _ => True) v0_ r ∧ Below w.heap.size w w' := by
  have HR0 := Aside0.mk hr0
  have HC0 := Aside0.mk hc0
  clear hr0 hc0
  have HR1 := Aside0.mk hr1
  have HC1 := Aside0.mk hc1
  clear hr1 hc1
  have HB := Aside0.mk (Below.refl w.heap.size w)
  have H : (hayloftref15_Project.l0 k l0 l1 ([] : List (List (S43))) 0) = some r := h
  clear h
  have H' := Aside0.mk H
  clear H
  go_enter Tryd.func11, Tryd.ntmps11
  go_wp2
  go_loopg [5, 6] k (fun kq v5 v6 w' => ∃ (x5_1 : List (List (S43))) (x6_1 : Int), v6 = .int .i64 x6_1 ∧ Aside0 (hayloftref15_Project.l0 kq l0 l1 x5_1 x6_1 = some r) ∧ Aside0 (kq ≤ k) ∧ Aside0 (Kd.S (Kd.slice 43 k43) 31 w' w.heap.size (fun _ => True) v5 x5_1) ∧ Aside0 (Below w.heap.size w w'))
  case atStart => exact ⟨(([] : List (List (S43)))), (0), (by first | rfl | (simp; done) | (simp [*]; done)), H', ⟨Nat.le_refl _⟩, ⟨by first | exact Kd.S_nil _ _ _ _ _ | exact Kd.N_nil _ _ _ _ _ | exact Kd.V_nil _ _ _ _ _ | exact Kd.Q_nil _ _ _ _ _ | exact Kd.R_nil _ _ _ _ _⟩, ⟨by repeat (first | (with_reducible first | exact HB.out | apply below_alloc | apply pw_below_drewN | apply below_drew1) | exact HB.out)⟩⟩
  case round =>
    clear H'
    try clear c1
    try clear p2
    obtain ⟨x5_1, x6_1, rfl, HA, HK1, HO_5, HB⟩ := hrel
    cases gk with
    | zero => exact absurd HA.out (by simp [hayloftref15_Project.l0])
    | succ k1 =>
      have H := HA.out
      clear HA
      simp only [hayloftref15_Project.l0] at H
      by_cases c3 : x6_1 < (l0.length : Int)
      · rw [if_pos c3] at H
        have c3b0 : decide (x6_1 < (l0.length : Int)) = true := decide_eq_true c3
        clear c3
        by_cases c4 : 0 ≤ x6_1
        · rw [if_pos c4] at H
          have c4b0 : decide (0 ≤ x6_1) = true := decide_eq_true c4
          clear c4
          replace H := Option.bind_eq_some_iff.mp H
          obtain ⟨t155, A50, H⟩ := H
          replace H : (if x5_1.length < 5864062014805 then (hayloftref15_Project.l0 k1 l0 l1 (x5_1 ++ [t155]) (wrap64 (x6_1 + 1))) else (none)) = some r := H
          have A5 := Aside0.mk A50
          clear A50
          by_cases c6 : x5_1.length < 5864062014805
          · rw [if_pos c6] at H
            have LMc6 := Aside0.mk c6
            clear c6
            obtain ⟨y158, hy158⟩ : ∃ y_ : List (List (S43)), y_ = (x5_1 ++ [t155]) := ⟨_, rfl⟩
            replace H : (hayloftref15_Project.l0 k1 l0 l1 y158 (wrap64 (x6_1 + 1))) = some r := by first | (rw [hy158]; with_reducible exact H) | (have H2_ := (Option.bind_some _ _).symm.trans H; rw [hy158]; with_reducible exact H2_) | (have H2_ := (Option.bind_some _ _).symm.trans H; with_reducible exact H2_) | with_reducible exact H | (rw [hy158]; exact H) | exact H
            have Ny158 := Aside0.mk hy158
            clear hy158
            have H' := Aside0.mk H
            clear H
            have p154 : 0 ≤ (x6_1 : Int) := of_decide_eq_true (by first | (with_reducible assumption) | assumption)
            have q154 : x6_1 < (l0.length : Int) := of_decide_eq_true (by first | (with_reducible assumption) | assumption)
            obtain ⟨ad154, A154_0, c154_0, e154, hx154_0, hl154_0, hi154_0⟩ := at_L4 HR0.out x6_1 p154 q154
            cases e154
            replace hx154_0 := (HB.out.cell (World.block_lt_of_cell? w _ hx154_0)).trans hx154_0
            have HR154_0 := Aside0.mk hi154_0
            have HC154_0 := Aside0.mk hl154_0
            clear hi154_0 hl154_0
            replace p154 := eq_true p154
            replace q154 := eq_true q154
            go_wp2_with (first | ((with_reducible refine gate_callee (f := 26) rfl ?_); refine goesL_ (some 19) rfl rfl Tryd.func26 (by kernel_rfl) rfl #[.slice A154_0 (rd_L4 l0 x6_1).length c154_0, .slice A1 l1.length c1] rfl (by (try simp only [List.map_toArray, List.map_cons, List.map_nil]); first | done | rfl | (simp only [List.length_drop, List.length_take]; rfl)) ?_; (with_reducible refine (hayloftref15_Pick.calls k1 _ _ (rd_L4 l0 x6_1) _ _ l1 t155 _ ?side1 ?side2 ?side3 ?side4 A5.out).mono ?_); (case side1 => repeat (first | exact (Kd.C_below HR154_0.out HB.out) | (with_reducible refine Kd.C_alloc ?_ _) | (with_reducible refine Kd.C_drewN ?_ _) | (with_reducible refine Kd.C_drew ?_))); (case side2 => exact HC154_0.out); (case side3 => repeat (first | exact (Kd.C_below HR1.out HB.out) | (with_reducible refine Kd.C_alloc ?_ _) | (with_reducible refine Kd.C_drewN ?_ _) | (with_reducible refine Kd.C_drew ?_))); (case side4 => exact HC1.out); rintro e w7 ⟨v156, rfl, ho0, hb⟩; refine ⟨_, rfl, ?_⟩; have n0_ := Aside0.mk (Kd.S_elder' (by (with_reducible repeat (first | apply Kd.S_alloc | apply Kd.S_drewN | apply Kd.S_drew)); exact HO_5.out) (Kd.R_base ho0) hb); have n1_ := Aside0.mk (Kd.R_lower ho0 (below_size (by repeat (first | (with_reducible first | exact HB.out | apply below_alloc | apply pw_below_drewN | apply below_drew1) | exact HB.out)))); have n2_ := Aside0.mk (below_step (by repeat (first | (with_reducible first | exact HB.out | apply below_alloc | apply pw_below_drewN | apply below_drew1) | exact HB.out)) hb); clear HO_5; clear HB; have HO_5 := n0_; have HO157 := n1_; have HB := n2_; clear n0_ n1_ n2_; (try clear hb); (try clear hb2); (try clear hk); (try clear hi); (try clear ho0); obtain ⟨Ao9, co9, eo9⟩ := Kd.R_slice HO157.out; subst eo9) | ((with_reducible refine gate_builtin (b := .append) (xs := #[.tmp 13, .tmp 20]) rfl ?_); at_builtin; refine Kd.S_append (Kd.slice 43 k43) (w0 := w) w.heap.size rfl (.tmp 13) (.tmp 20) 22 31 (.slice none 0 0) 24 rfl Tryd.underlying22 info31 rfl (by decide) (by omega) u5 x5_1 t155 [.slice Ao9 t155.length co9] (fun _ => True) (fun k_ => some k_ = (.slice Ao9 t155.length co9 : Value).ownBlock) rfl rfl ?aP (fun k_ hk_ => ((Kd.R_mono (ok' := fun k_ => ((fun _ => True)) k_ ∧ some k_ ≠ (u5 : Value).ownBlock) (Kd.R_apart' (HO157.out) (Kd.S_typed HO_5.out) (by decide)) (fun k_ hk => ⟨trivial, hk.2⟩))).1 k_ hk_.symm) ?aF ?aO ?aB ?aS ?aL ?_; (case aP => exact Kd.M_row (Kd.R_mono (Kd.R_tight rfl (Kd.R_mono (ok' := fun k_ => ((fun _ => True)) k_ ∧ some k_ ≠ (u5 : Value).ownBlock) (Kd.R_apart' (HO157.out) (Kd.S_typed HO_5.out) (by decide)) (fun k_ hk => ⟨trivial, hk.2⟩))) (fun _ h_ => h_))); (case aB => exact (by repeat (first | (with_reducible first | exact HB.out | apply below_alloc | apply pw_below_drewN | apply below_drew1) | exact HB.out))); (case aF => exact (fun _ _ => trivial)); (case aO => exact (by (with_reducible repeat (first | apply Kd.S_alloc | apply Kd.S_drewN | apply Kd.S_drew)); exact Kd.S_mono HO_5.out (fun k_ hk => ⟨trivial, fun e_ => hk.2 e_⟩))); (case aS => exact (below_size (by repeat (first | (with_reducible first | exact HB.out | apply below_alloc | apply pw_below_drewN | apply below_drew1) | exact HB.out)))); (case aL => have := LMc6.out; omega); intro v159 w8 ho hb hg hat; rw [← Ny158.out] at ho; have n0_ := Aside0.mk (hb); have n1_ := Aside0.mk (ho); clear HB; clear HO_5; clear HO157; have HB := n0_; have HO160 := n1_; clear n0_ n1_; clear ho hb hg hat))
            go_roundg k1
            case measure => have := HK1.out; omega
            case rel => exact ⟨(y158), (wrap64 (x6_1 + 1)), (by first | rfl | (simp; done) | (simp [*]; done)), H', ⟨by have := HK1.out; omega⟩, ⟨by (with_reducible repeat (first | apply Kd.S_alloc | apply Kd.S_drewN | apply Kd.S_drew)); exact HO160.out⟩, ⟨by repeat (first | (with_reducible first | exact HB.out | apply below_alloc | apply pw_below_drewN | apply below_drew1) | exact HB.out)⟩⟩
          · rw [if_neg c6] at H
            exact absurd H (by simp)
        · rw [if_neg c4] at H
          exact absurd H (by simp)
      · rw [if_neg c3] at H
        have c3b0 : decide (x6_1 < (l0.length : Int)) = false := decide_eq_false c3
        clear c3
        obtain rfl := Option.some.inj H
        go_wp2
        go_ret
        exact ⟨_, by first | rfl | (simp [errW_none, errW_some] <;> rfl) | (simp [*, errW_none, errW_some] <;> rfl), by (with_reducible repeat (first | apply Kd.S_alloc | apply Kd.S_drewN | apply Kd.S_drew)); exact HO_5.out, by repeat (first | (with_reducible first | exact HB.out | apply below_alloc | apply pw_below_drewN | apply below_drew1) | exact HB.out)⟩

end Go.Proofs.YtghblnldokpceaaDoor.QV
/- The plain laws of exec.picked, hayloftref15.Pick, Project and Filter. -/
namespace Go.Proofs.YtghblnldokpceaaDoor.QV
open Go.RowKit Go.Proofs.YtghblnldokpceaaDoorW.PrintWords Go.Proofs.YtghblnldokpceaaDoor.Op
set_option linter.unusedVariables false
set_option linter.unusedSimpArgs false
def pickS (x : Row) (cs : List Int) : Row := cs.map (atS x)
theorem picked_loop (x : Row) (cs : List Int) (hm : cs.length < 3518437208883) : ∀ (d i : Nat), i + d = cs.length → Ev (fun k => exec_picked.l0 k x (pickS x (cs.take i)) cs (cs.length : Int) (i : Int)) (pickS x cs) := by
  intro d
  induction d with
  | zero =>
    intro i hi
    refine Ev.step (f := fun _ => some (pickS x cs)) (fun k => ?_) (Ev.now _)
    simp only [exec_picked.l0]
    rw [if_neg (by omega), List.take_of_length_le (by omega)]
  | succ d ih =>
    intro i hi
    have hw : wrap64 ((i : Int) + 1) = ((i + 1 : Nat) : Int) := by unfold wrap64; omega
    have hra : rd cs (i : Int) = cs.getD i 0 := rfl
    have hts := take_snoc' (0 : Int) cs i (by omega)
    have hp : pickS x (cs.take i) ++ [atS x (cs.getD i 0)] = pickS x (cs.take (i + 1)) := by rw [← hts]; simp [pickS]
    have hl : (pickS x (cs.take i)).length = i := by simp [pickS]; omega
    refine Ev.step (fun k => ?_) (ih (i + 1) (by omega))
    simp only [exec_picked.l0, hra, hw, at_f, Option.bind_some]
    rw [if_pos (by omega), if_pos (by omega), if_pos (by omega), if_pos (by omega), ← hp]
theorem picked_f (x : Row) (cs : List Int) (hm : cs.length < 3518437208883) : ∃ k, exec_picked.f k x cs = some (pickS x cs) := by
  have h := picked_loop x cs hm cs.length 0 (by omega)
  exact h.rounds
end Go.Proofs.YtghblnldokpceaaDoor.QV
/- exec.Project: what its iterator gives. -/
namespace Go.Proofs.YtghblnldokpceaaDoor.QV
open Go.RowKit Go.Proofs.YtghblnldokpceaaDoorW.PrintWords Go.Proofs.YtghblnldokpceaaDoor.Seq Go.Shelf Go.Proofs.YtghblnldokpceaaDoor.Op
set_option linter.unusedVariables false
set_option linter.unusedSimpArgs false
attribute [local go_sem] Oper.semAt_some

set_option maxRecDepth 100000 in
set_option maxHeartbeats 4000000 in
theorem project_seq (xs : List Row) (cs : List Int) (At : Option Addr) (ct : Nat) (sv : Value) (b1 b2 : Nat) (w : World) (hR : IsSeq w sv xs)
    (h1 : w.cell? ⟨b1, 0, none⟩ = some sv) (h2 : w.cell? ⟨b2, 0, none⟩ = some (.slice At cs.length ct)) (hts : Kd.C (Kd.int .i64) w At cs.length cs) (hct : cs.length ≤ ct) (hcl : cs.length < 3518437208883)
    :
    SeqOf Tryd.prog 24 #[.pointer (some ⟨b1, 0, none⟩), .pointer (some ⟨b2, 0, none⟩)] (RdNew w) (xs.map (fun x => pickS x cs)) w := by
  intro l J Jx W Mc hW hMc hJ hJx hY h0
  have hcons : Cons Tryd.prog w W l J Jx Mc (xs.map (fun x => pickS x cs)) := ⟨hW, hMc, hJ, hJx, hY⟩
  have hzw : w.heap.size ≤ W.heap.size := hW.size
  obtain ⟨gR, lbR, RdR, rfl, egR, hsR, hkR, hrR⟩ := hR
  refine (callsIn_wide (n := 0)).1 (callsIn_of_wp_marks Tryd.func24 rfl trivial ?_ rfl)
  simp only [Tryd.ntmps24, List.size_toArray, List.length_cons, List.length_nil, Nat.reduceAdd, Nat.reduceSub, Array.replicate_succ, Array.replicate_zero, List.push_toArray, List.append_toArray, List.nil_append, List.cons_append]
  have d1 : (W.alloc (.cells #[.func (.yield l) #[] #[]] 46)).cell? ⟨b1, 0, none⟩ = some (.func (.func gR) #[] lbR) := pw_cell_below (hW.trans ((below_alloc (Below.refl _ _) _).mono hzw)) h1
  gi_wp2
  obtain ⟨W1, hW1⟩ : ∃ W1, W.alloc (.cells #[.func (.yield l) #[] #[]] 46) = W1 := ⟨_, rfl⟩
  have hbW1 : Below W.heap.size W W1 := by rw [← hW1]; exact below_alloc (Below.refl _ _) _
  have hszW1 : W1.heap.size = W.heap.size + 1 := by rw [← hW1]; simp
  have hx3 : W1.heap[W.heap.size]? = some (.cells #[.func (.yield l) #[] #[]] 46 (0, 0)) := by rw [← hW1]; exact blk_new _ _
  rw [hW1]
  clear hW1 d1
  have hMcW : ∀ i, Mc i → i < W.heap.size := fun i h => (hMc i h).2
  have hbw1 : Below w.heap.size w W1 := hW.trans (hbW1.mono hzw)
  have hz1 : W.heap.size ≤ W1.heap.size := by omega
  refine wpIn_range (gf := gR) (lb := lbR) rfl egR hsR hbw1 (fun A N x vs h => by obtain ⟨Ad, c, rfl, _⟩ := hrR _ _ _ _ h; rfl) hkR
    (fun pre => J3 J Mc (fun _ => False) W W1 (pre.map (fun x => pickS x cs))) (fun c pre Mh A => c = .ret ∧ ∃ y, y <+: xs.map (fun x => pickS x cs) ∧ J3 Jx Mc (fun _ => False) W W1 y Mh A) (fun pre M A B h hk => h.kept hJ hz1 hk) (fun c pre M A B h hk => by obtain ⟨e, y, hy, h⟩ := h; exact ⟨e, y, hy, h.kept hJx hz1 hk⟩)
    (fun i => Mc i ∨ (W.heap.size ≤ i ∧ i < W1.heap.size)) ?hM2 ?h02 (fun x vs a₁ M A => ∃ v, vs = #[v] ∧ a₁ = { tmps := #[.func (.yield l) #[] #[], .pointer (some ⟨b1, 0, none⟩), .pointer (some ⟨b2, 0, none⟩), .pointer (some ⟨W.heap.size, 0, none⟩), v, .func (.func gR) #[] lbR, v] ++ Array.replicate 6 undef, defers := [] })
    (fun _ _ _ _ _ _ h _ => h) ?assign2 ?body2 ?done2 ?stop2
  case hM2 => intro i hi; rcases hi with h | h; have := hMc i h; omega; omega
  case h02 => exact ⟨Mc, hJ _ _ _ _ h0 (Kpt.of_new _ hbW1), fun i => Iff.rfl, fun i hi => ⟨.inl hi, by have := hMc i hi; omega⟩, Kpt.refl _ _⟩
  case assign2 =>
    intro l2 pre x vs N A M hI hpre hrd hM hN
    obtain ⟨Ad, c, rfl, hle, hC⟩ := hrR _ _ _ _ hrd
    gi_wp2
    refine ⟨M, fun i hi => ⟨.inl hi, (hM i hi).2⟩, Kpt.refl _ _, hI, _, rfl, ?_⟩
    simp only [List.size_toArray, List.length_cons, List.length_nil, Nat.reduceAdd, Nat.reduceSub, Array.replicate_succ, Array.replicate_zero, List.push_toArray, List.append_toArray, List.nil_append, List.cons_append]
  case body2 =>
    intro l2 pre x vs N A Mh a₁ hI hpre hrd hax hM hN
    obtain ⟨v, rfl, rfl⟩ := hax
    simp only [List.size_toArray, List.length_cons, List.length_nil, Nat.reduceAdd, Nat.reduceSub, Array.replicate_succ, Array.replicate_zero, List.push_toArray, List.append_toArray, List.nil_append, List.cons_append]
    obtain ⟨Ad, c, hvv, hle, hC⟩ := hrR _ _ _ _ hrd
    obtain rfl : v = .slice Ad x.length c := by simpa using hvv
    clear hvv
    have hzA := hI.size
    have hbA : Below w.heap.size w A := hbw1.trans (hI.below (fun i h => (hMc i h).1) (fun _ h => h.elim) hbw1.size)
    have hKA : Kpt (fun i => Mc i ∨ False) W1 A := by obtain ⟨_, _, _, _, h⟩ := hI; exact h
    have hxA : A.heap[W.heap.size]? = some (.cells #[.func (.yield l) #[] #[]] 46 (0, 0)) := hKA.at hx3 (fun h => by rcases h with h | h; have := hMcW _ h; omega; exact h)
    have hlxA := blk_lt hxA
    have hsn : (pre ++ [x]).map (fun x => pickS x cs) = pre.map (fun x => pickS x cs) ++ [pickS x cs] := by simp
    obtain ⟨kp, hkp⟩ := picked_f x cs hcl
    have keep : ∀ V, Kpt (fun i => Mc i ∨ W1.heap.size ≤ i) A V → V.cell? ⟨b2, 0, none⟩ = some (.slice At cs.length ct) ∧ V.cell? ⟨W.heap.size, 0, none⟩ = some (.func (.yield l) #[] #[]) := fun V hV =>
      ⟨pw_cell_below (hbA.trans (hV.below hbA.size (fun i _ h => by rcases h with h | h; exact (hMc i h).1; omega))) h2, blk_cell (hV.at hxA (fun h => by rcases h with h | h; have := hMcW _ h; omega; omega)) 0⟩
    have kb : ∀ V, Below A.heap.size A V → Kpt (fun i => Mc i ∨ W1.heap.size ≤ i) A V := fun V hV => Kpt.of_new _ hV
    gi_wp2
    refine wpIn_region_R 6 (S := fun V => V.cell? ⟨b2, 0, none⟩ = some (.slice At cs.length ct) ∧ V.cell? ⟨W.heap.size, 0, none⟩ = some (.func (.yield l) #[] #[])) (by kernel_rfl) (keep _ (kb _ (below_drew (Below.refl _ _)))) (fun hS0 => ?_)
    refine wpAnyR_take (i := 0) (oi := ⟨some 7, _, _, _, _, _⟩) (v := ?_) (by kernel_rfl) (by kernel_rfl) rfl (by kernel_rfl) (by kernel_rfl) (by kernel_rfl) (fun _ _ _ h => h) (Or.inl ⟨by rfl, ?_⟩) (by assumption) ?_
    rotate_left
    · intro w hSw; (try dsimp only at hSw); (try go_split_ands); go_simp; (try (with_reducible rfl))
    (try simp only [Act.put, List.setIfInBounds_toArray, List.set_cons_zero, List.set_cons_succ])
    refine wpAnyR_take (i := 1) (oi := ⟨some 8, _, _, _, _, _⟩) (v := ?_) (by kernel_rfl) (by kernel_rfl) rfl (by kernel_rfl) (by kernel_rfl) (by kernel_rfl) (fun _ _ _ h => h) (Or.inl ⟨by rfl, ?_⟩) (by assumption) ?_
    rotate_left
    · intro w hSw; (try dsimp only at hSw); (try go_split_ands); go_simp; (try (with_reducible rfl))
    (try simp only [Act.put, List.setIfInBounds_toArray, List.set_cons_zero, List.set_cons_succ])
    refine wpAnyR_take (i := 2) (oi := ⟨some 9, _, _, _, _, _⟩) (v := ?_) (by kernel_rfl) (by kernel_rfl) rfl (by kernel_rfl) (by kernel_rfl) (by kernel_rfl) (fun _ _ _ h => h) (Or.inl ⟨by rfl, ?_⟩) (by assumption) ?_
    rotate_left
    · intro w hSw; (try dsimp only at hSw); (try go_split_ands); go_simp; (try (with_reducible rfl))
    (try simp only [Act.put, List.setIfInBounds_toArray, List.set_cons_zero, List.set_cons_succ])
    refine wpAnyR_one (i := 3) (o := ⟨some 10, _, _, _, _, _⟩) (by kernel_rfl) (by kernel_rfl) rfl (fun K hK => ?_)
    go_simp
    have hbd : Below w.heap.size w A.drew := hbA.trans ((below_drew (Below.refl _ A)).mono hbA.size)
    refine (exec_picked.calls kp Ad c x At ct cs _ A.drew (Kd.C_drew hC) hle (Kd.C_below hts hbd) hct hkp).mono ?_
    rintro e W3 ⟨v3, rfl, hR3, hb3⟩
    have hb3A : Below A.heap.size A W3 := (below_drew (Below.refl _ A)).trans hb3
    have hS3 := keep _ (kb _ hb3A)
    (try dsimp only)
    refine hK.out _ _ (.inr hS3) ?_
    clear hK K
    (try simp only [Act.put, List.setIfInBounds_toArray, List.set_cons_zero, List.set_cons_succ])
    have hpp : (pre ++ [x]).map (fun x => pickS x cs) <+: xs.map (fun x => pickS x cs) := hpre.map _
    rw [hsn] at hpp
    obtain ⟨fn, tmps, assign, body, hy, hRn⟩ := hI.yield hcons hz1 hb3A (Kd.R_lower hR3 (Nat.le_refl _)) hpp
    refine wpAnyR_oneIn (i := 4) (o := ⟨some 11, _, _, _, _, _⟩) (by kernel_rfl) rfl (fun K hK => ?_)
    rw [if_pos (by rfl)]
    refine ⟨fun _ _ => trivial, ?_⟩
    go_simp
    refine ⟨rfl, round_in _ (hRn.mono ?_)⟩
    rintro e W4 ⟨M4, hM4, hk4, hk4', (⟨rfl, hJ4⟩ | ⟨rfl, hJ4⟩)⟩
    · have hS4 := keep _ hk4'
      refine hK.out _ _ (.inr hS4) ?_
      clear hK K
      (try simp only [Act.put, List.setIfInBounds_toArray, List.set_cons_zero, List.set_cons_succ])
      refine wpAnyR_take (i := 5) (oi := ⟨some 12, _, _, _, _, _⟩) (v := ?_) (by kernel_rfl) (by kernel_rfl) rfl (by kernel_rfl) (by kernel_rfl) (by kernel_rfl) (fun _ _ _ h => h) (Or.inl ⟨by rfl, ?_⟩) (by assumption) ?_
      rotate_left
      · intro w hSw; (try dsimp only at hSw); (try go_split_ands); go_simp; (try (with_reducible rfl))
      (try simp only [Act.put, List.setIfInBounds_toArray, List.set_cons_zero, List.set_cons_succ])
      refine wpAnyR_done (by kernel_rfl) ?_ _
      gi_wp2
      refine ⟨M4, fun i hi => ⟨by rcases (hM4 i hi).1 with h | h; exact .inl h; exact .inr (.inr h), (hM4 i hi).2⟩, hk4.mono (fun _ _ h => .inl h), ?_⟩
      show J3 J Mc _ W W1 ((pre ++ [x]).map (fun x => pickS x cs)) M4 W4
      rw [hsn]
      exact hJ4
    · have hS4 := keep _ hk4'
      refine hK.out _ _ (.inr hS4) ?_
      clear hK K
      (try simp only [Act.put, List.setIfInBounds_toArray, List.set_cons_zero, List.set_cons_succ])
      refine wpAnyR_take (i := 5) (oi := ⟨some 12, _, _, _, _, _⟩) (v := ?_) (by kernel_rfl) (by kernel_rfl) rfl (by kernel_rfl) (by kernel_rfl) (by kernel_rfl) (fun _ _ _ h => h) (Or.inl ⟨by rfl, ?_⟩) (by assumption) ?_
      rotate_left
      · intro w hSw; (try dsimp only at hSw); (try go_split_ands); go_simp; (try (with_reducible rfl))
      (try simp only [Act.put, List.setIfInBounds_toArray, List.set_cons_zero, List.set_cons_succ])
      refine wpAnyR_done (by kernel_rfl) ?_ _
      gi_wp2
      refine ⟨M4, fun i hi => ⟨by rcases (hM4 i hi).1 with h | h; exact .inl h; exact .inr (.inr h), (hM4 i hi).2⟩, hk4.mono (fun _ _ h => .inl h), ?_⟩
      exact ⟨rfl, _, hpp, hJ4⟩
  case done2 =>
    intro D2 W3 M3 hI3 hk3 hM3 hD3 hDw3 hDM3
    gi_wp2
    refine ⟨by simp, .inl ⟨_, _, rfl, run_takeDeferred hD3, ?_⟩⟩
    obtain ⟨M4, h41, h42, h43⟩ := hI3.ends hJ hMcW (fun _ h => h.elim) hbW1 (Nat.le_trans hz1 hDw3) (fun _ => hDM3) (o := .deferred none)
    exact ⟨_, results_none rfl _ _ _, ⟨_, rfl⟩, M4, h41, h42, .inl h43⟩
  case stop2 =>
    intro D2 c pre W3 M3 hpre hI3 hk3 hM3 hD3 hDw3 hDM3
    obtain ⟨rfl, y, hy, hI3⟩ := hI3
    gi_wp2
    refine ⟨by simp, .inl ⟨_, _, rfl, run_takeDeferred hD3, ?_⟩⟩
    obtain ⟨M4, h41, h42, h43⟩ := hI3.ends hJx hMcW (fun _ h => h.elim) hbW1 (Nat.le_trans hz1 hDw3) (fun _ => hDM3) (o := .deferred none)
    exact ⟨_, results_none rfl _ _ _, ⟨_, rfl⟩, M4, h41, h42, .inr ⟨y, hy, h43⟩⟩
end Go.Proofs.YtghblnldokpceaaDoor.QV
/- exec.Limit: what its iterator gives. -/
namespace Go.Proofs.YtghblnldokpceaaDoor.QV
open Go.RowKit Go.Proofs.YtghblnldokpceaaDoorW.PrintWords Go.Proofs.YtghblnldokpceaaDoor.Seq Go.Shelf Go.Proofs.YtghblnldokpceaaDoor.Op
set_option linter.unusedVariables false
set_option linter.unusedSimpArgs false
attribute [local go_sem] Oper.semAt_some

set_option maxRecDepth 100000 in
set_option maxHeartbeats 4000000 in
theorem limit_seq (xs : List Row) (many : Nat) (sv : Value) (b1 b2 : Nat) (w : World) (hR : IsSeq w sv xs)
    (h1 : w.cell? ⟨b1, 0, none⟩ = some (.int .i64 many)) (h2 : w.cell? ⟨b2, 0, none⟩ = some sv) (hm : many ≤ 9223372036854775807)
    (hb : ∀ x ∈ xs, x.length ≤ 1048576) :
    SeqOf Tryd.prog 30 #[.pointer (some ⟨b1, 0, none⟩), .pointer (some ⟨b2, 0, none⟩)] (RdNew w) (xs.take many) w := by
  intro l J Jx W Mc hW hMc hJ hJx hY h0
  have hcons : Cons Tryd.prog w W l J Jx Mc (xs.take many) := ⟨hW, hMc, hJ, hJx, hY⟩
  have hzw : w.heap.size ≤ W.heap.size := hW.size
  obtain ⟨gR, lbR, RdR, rfl, egR, hsR, hkR, hrR⟩ := hR
  refine (callsIn_wide (n := 0)).1 (callsIn_of_wp_marks Tryd.func30 rfl trivial ?_ rfl)
  simp only [Tryd.ntmps30, List.size_toArray, List.length_cons, List.length_nil, Nat.reduceAdd, Nat.reduceSub, Array.replicate_succ, Array.replicate_zero, List.push_toArray, List.append_toArray, List.nil_append, List.cons_append]
  have d1 : (W.alloc (.cells #[.func (.yield l) #[] #[]] 46)).cell? ⟨b1, 0, none⟩ = some (.int .i64 many) := pw_cell_below (hW.trans ((below_alloc (Below.refl _ _) _).mono hzw)) h1
  have d2 : ((W.alloc (.cells #[.func (.yield l) #[] #[]] 46)).alloc (.cells #[.int .i64 many] 3)).cell? ⟨b2, 0, none⟩ = some (.func (.func gR) #[] lbR) := pw_cell_below (hW.trans ((below_alloc (below_alloc (Below.refl _ _) _) _).mono hzw)) h2
  by_cases hmany : many = 0
  · subst hmany
    gi_wp2
    refine ⟨_, results_none rfl _ _ _, ⟨_, rfl⟩, Mc, fun i hi => ⟨.inl hi, by have := hMc i hi; simp; omega⟩, Kpt.of_new _ (below_alloc (below_alloc (Below.refl _ _) _) _), .inl ?_⟩
    rw [List.take_zero]
    exact hJ _ _ _ _ h0 (Kpt.of_new _ (below_alloc (below_alloc (Below.refl _ _) _) _))
  have hpos : 0 < many := by omega
  gi_wp2
  obtain ⟨W1, hW1⟩ : ∃ W1, (W.alloc (.cells #[.func (.yield l) #[] #[]] 46)).alloc (.cells #[.int .i64 many] 3) = W1 := ⟨_, rfl⟩
  have hbW1 : Below W.heap.size W W1 := by rw [← hW1]; exact below_alloc (below_alloc (Below.refl _ _) _) _
  have hszW1 : W1.heap.size = W.heap.size + 2 := by rw [← hW1]; simp
  have hx3 : W1.heap[W.heap.size]? = some (.cells #[.func (.yield l) #[] #[]] 46 (0, 0)) := by rw [← hW1]; exact blk_alloc (blk_new _ _) _
  have hx4 : W1.heap[W.heap.size + 1]? = some (.cells #[.int .i64 many] 3 (0, 0)) := by rw [← hW1]; have := blk_new (W.alloc (.cells #[.func (.yield l) #[] #[]] 46)) (.cells #[.int .i64 many] 3); rwa [World.size_alloc] at this
  rw [hW1]
  clear hW1 d1 d2
  have hMcW : ∀ i, Mc i → i < W.heap.size := fun i h => (hMc i h).2
  have hbw1 : Below w.heap.size w W1 := hW.trans (hbW1.mono hzw)
  have hz1 : W.heap.size ≤ W1.heap.size := by omega
  have hZ : ∀ i, i = W.heap.size + 1 → W.heap.size ≤ i ∧ i < W1.heap.size := fun i h => by omega
  refine wpIn_range (gf := gR) (lb := lbR) rfl egR hsR hbw1 (fun A N x vs h => by obtain ⟨Ad, c, rfl, _⟩ := hrR _ _ _ _ h; rfl) hkR
    (fun pre Mh A => J3 J Mc (fun i => i = W.heap.size + 1) W W1 pre Mh A ∧ pre.length < many ∧ A.heap[W.heap.size + 1]? = some (.cells #[.int .i64 ((many : Int) - pre.length)] 3 (0, 0)))
    (fun c pre Mh A => c = .ret ∧ ((∃ y, y <+: xs.take many ∧ J3 Jx Mc (fun i => i = W.heap.size + 1) W W1 y Mh A) ∨ J3 J Mc (fun i => i = W.heap.size + 1) W W1 (xs.take many) Mh A))
    (fun pre M A B h hk => ⟨h.1.kept hJ hz1 hk, h.2.1, hk.at h.2.2 (fun k => by omega)⟩)
    (fun c pre M A B h hk => ⟨h.1, by rcases h.2 with ⟨y, hy, h⟩ | h; exact .inl ⟨y, hy, h.kept hJx hz1 hk⟩; exact .inr (h.kept hJ hz1 hk)⟩)
    (fun i => Mc i ∨ (W.heap.size ≤ i ∧ i < W1.heap.size)) ?hM2 ?h02 (fun x vs a₁ M A => ∃ v, vs = #[v] ∧ a₁ = { tmps := #[.func (.yield l) #[] #[], .pointer (some ⟨b1, 0, none⟩), .pointer (some ⟨b2, 0, none⟩), .pointer (some ⟨W.heap.size, 0, none⟩), .pointer (some ⟨W.heap.size + 1, 0, none⟩), v, .int .i64 many, .int .i64 many, .bool (decide ((many : Int) < 1)), .func (.func gR) #[] lbR, v] ++ Array.replicate 11 undef, defers := [] })
    (fun _ _ _ _ _ _ h _ => h) ?assign2 ?body2 ?done2 ?stop2
  case hM2 => intro i hi; rcases hi with h | h; have := hMc i h; omega; omega
  case h02 => exact ⟨⟨Mc, hJ _ _ _ _ h0 (Kpt.of_new _ hbW1), fun i => Iff.rfl, fun i hi => ⟨.inl hi, by have := hMc i hi; omega⟩, Kpt.refl _ _⟩, hpos, by simpa using hx4⟩
  case assign2 =>
    intro l2 pre x vs N A M hI hpre hrd hM hN
    obtain ⟨Ad, c, rfl, hle, hC⟩ := hrR _ _ _ _ hrd
    gi_wp2
    refine ⟨M, fun i hi => ⟨.inl hi, (hM i hi).2⟩, Kpt.refl _ _, hI, _, rfl, ?_⟩
    simp only [List.size_toArray, List.length_cons, List.length_nil, Nat.reduceAdd, Nat.reduceSub, Array.replicate_succ, Array.replicate_zero, List.push_toArray, List.append_toArray, List.nil_append, List.cons_append]
  case body2 =>
    intro l2 pre x vs N A Mh a₁ hI hpre hrd hax hM hN
    obtain ⟨v, rfl, rfl⟩ := hax
    simp only [List.size_toArray, List.length_cons, List.length_nil, Nat.reduceAdd, Nat.reduceSub, Array.replicate_succ, Array.replicate_zero, List.push_toArray, List.append_toArray, List.nil_append, List.cons_append]
    obtain ⟨Ad, c, hvv, hle, hC⟩ := hrR _ _ _ _ hrd
    obtain rfl : v = .slice Ad x.length c := by simpa using hvv
    obtain ⟨hI, hpl, hxl⟩ := hI
    have hx1 := hb x (hpre.subset (by simp))
    have hzA := hI.size
    have hpp : (pre ++ [x]) <+: xs.take many := List.prefix_take_iff.2 ⟨hpre, by simp; omega⟩
    obtain ⟨k, hk⟩ : ∃ k : Nat, (many : Int) - pre.length = ((k + 1 : Nat) : Int) := ⟨many - pre.length - 1, by omega⟩
    rw [hk] at hxl
    have c4 : A.cell? ⟨W.heap.size + 1, 0, none⟩ = some (.int .i64 ((k + 1 : Nat) : Int)) := blk_cell hxl 0
    have f4 : A.frozen? ⟨W.heap.size + 1, 0, none⟩ = false := blk_frozen hxl 0
    have hlx := blk_lt hxl
    have hk1 : ((k + 1 : Nat) : Int) - 1 = (k : Int) := by omega
    gi_wp2
    obtain ⟨A1, hA1⟩ : ∃ A1, A.setCell ⟨W.heap.size + 1, 0, none⟩ (.int .i64 (k : Int)) = A1 := ⟨_, rfl⟩
    rw [hA1]
    have hKZ : Kpt (fun i => i = W.heap.size + 1) A A1 := by rw [← hA1]; exact Kpt.setCell A ⟨W.heap.size + 1, 0, none⟩ _
    have hxl1 : A1.heap[W.heap.size + 1]? = some (.cells #[.int .i64 (k : Int)] 3 (0, 0)) := by rw [← hA1]; exact blk_set hxl 0 _
    have hsz1 : A1.heap.size = A.heap.size := by rw [← hA1]; simp
    have hI1 := hI.wrote hJ hMcW hZ hKZ
    clear hA1
    have hbA : Below w.heap.size w A1 := hbw1.trans (hI1.below (fun i h => (hMc i h).1) (fun i h => by omega) hbw1.size)
    have hKA : Kpt (fun i => Mc i ∨ i = W.heap.size + 1) W1 A1 := by obtain ⟨_, _, _, _, h⟩ := hI1; exact h
    have hxA : A1.heap[W.heap.size]? = some (.cells #[.func (.yield l) #[] #[]] 46 (0, 0)) := hKA.at hx3 (fun h => by rcases h with h | h; have := hMcW _ h; omega; omega)
    have hMhZ : Mh (W.heap.size + 1) := by obtain ⟨_, _, h, _, _⟩ := hI; exact (h _).2 (.inr (by omega))
    have hC1 : kS.C A1 Ad x.length x := by
      obtain ⟨Ad', c', e, _, h⟩ := hrR _ _ _ _ (hkR _ _ _ _ _ hrd (hKZ.mono (fun i _ h => ⟨by omega, fun z => (hN i z).2.2 (by rw [h]; exact hMhZ)⟩)))
      have e2 : Value.slice Ad x.length c = .slice Ad' x.length c' := by simpa using e
      injection e2 with e2 _ _
      rw [e2]; exact h
    have keep : ∀ V, Kpt (fun i => Mc i ∨ W1.heap.size ≤ i) A1 V → V.cell? ⟨W.heap.size + 1, 0, none⟩ = some (.int .i64 (k : Int)) ∧ V.cell? ⟨W.heap.size, 0, none⟩ = some (.func (.yield l) #[] #[]) := fun V hV =>
      ⟨blk_cell (hV.at hxl1 (fun h => by rcases h with h | h; have := hMcW _ h; omega; omega)) 0, blk_cell (hV.at hxA (fun h => by rcases h with h | h; have := hMcW _ h; omega; omega)) 0⟩
    have kb : ∀ V, Below A1.heap.size A1 V → Kpt (fun i => Mc i ∨ W1.heap.size ≤ i) A1 V := fun V hV => Kpt.of_new _ hV
    have keepX : ∀ V, Kpt (fun i => Mc i ∨ W1.heap.size ≤ i) A1 V → V.heap[W.heap.size + 1]? = some (.cells #[.int .i64 (k : Int)] 3 (0, 0)) := fun V hV => hV.at hxl1 (fun h => by rcases h with h | h; have := hMcW _ h; omega; omega)
    refine wpIn_region_R 9 (S := fun V => V.cell? ⟨W.heap.size + 1, 0, none⟩ = some (.int .i64 (k : Int)) ∧ V.cell? ⟨W.heap.size, 0, none⟩ = some (.func (.yield l) #[] #[])) (by kernel_rfl) (keep _ (kb _ (below_drew (Below.refl _ _)))) (fun hS0 => ?_)
    refine wpAnyR_take (i := 0) (oi := ⟨some 13, _, _, _, _, _⟩) (v := ?_) (by kernel_rfl) (by kernel_rfl) rfl (by kernel_rfl) (by kernel_rfl) (by kernel_rfl) (fun _ _ _ h => h) (Or.inl ⟨by rfl, ?_⟩) (by assumption) ?_
    rotate_left
    · intro w hSw; (try dsimp only at hSw); (try go_split_ands); go_simp; (try (with_reducible rfl))
    (try simp only [Act.put, List.setIfInBounds_toArray, List.set_cons_zero, List.set_cons_succ])
    refine wpAnyR_take (i := 1) (oi := ⟨some 14, _, _, _, _, _⟩) (v := ?_) (by kernel_rfl) (by kernel_rfl) rfl (by kernel_rfl) (by kernel_rfl) (by kernel_rfl) (fun _ _ _ h => h) (Or.inl ⟨by rfl, ?_⟩) (by assumption) ?_
    rotate_left
    · intro w hSw; (try dsimp only at hSw); (try go_split_ands); go_simp; (try (with_reducible rfl))
    (try simp only [Act.put, List.setIfInBounds_toArray, List.set_cons_zero, List.set_cons_succ])
    refine wpAnyR_one (i := 2) (o := ⟨some 15, _, _, _, _, _⟩) (by kernel_rfl) (by kernel_rfl) rfl (fun K hK => ?_)
    go_simp
    refine (clone_any Ad x c A1.drew (Kd.C_drew hC1) hle (by omega)).mono ?_
    rintro e W3 ⟨v3, rfl, hR3, hb3⟩
    have hb3A : Below A1.heap.size A1 W3 := (below_drew (Below.refl _ A1)).trans hb3
    have hS3 := keep _ (kb _ hb3A)
    (try dsimp only)
    refine hK.out _ _ (.inr hS3) ?_
    clear hK K
    (try simp only [Act.put, List.setIfInBounds_toArray, List.set_cons_zero, List.set_cons_succ])
    obtain ⟨fn, tmps, assign, body, hy, hRn⟩ := hI1.yield hcons hz1 hb3A (Kd.R_lower hR3 (Nat.le_refl _)) hpp
    refine wpAnyR_oneIn (i := 3) (o := ⟨some 16, _, _, _, _, _⟩) (by kernel_rfl) rfl (fun K hK => ?_)
    rw [if_pos (by rfl)]
    refine ⟨fun _ _ => trivial, ?_⟩
    go_simp
    refine ⟨rfl, round_in _ (hRn.mono ?_)⟩
    have hKA1 : ∀ V, Kpt Mh A1 V → Kpt (fun i => Mh i ∨ N i) A V := fun V hV => hKZ.trans hV (fun i _ h => by rcases h with h | h; rw [h]; exact .inl hMhZ; exact .inl h)
    rintro e W4 ⟨M4, hM4, hk4, hk4', (⟨rfl, hJ4⟩ | ⟨rfl, hJ4⟩)⟩
    · have hS4 := keep _ hk4'
      refine hK.out _ _ (.inr hS4) ?_
      clear hK K
      (try simp only [Act.put, List.setIfInBounds_toArray, List.set_cons_zero, List.set_cons_succ])
      refine wpAnyR_take (i := 4) (oi := ⟨some 17, _, _, _, _, _⟩) (v := ?_) (by kernel_rfl) (by kernel_rfl) rfl (by kernel_rfl) (by kernel_rfl) (by kernel_rfl) (fun _ _ _ h => h) (Or.inl ⟨by rfl, ?_⟩) (by assumption) ?_
      rotate_left
      · intro w hSw; (try dsimp only at hSw); (try go_split_ands); go_simp; (try (with_reducible rfl))
      (try simp only [Act.put, List.setIfInBounds_toArray, List.set_cons_zero, List.set_cons_succ])
      refine wpAnyR_take (i := 5) (oi := ⟨some 18, _, _, _, _, _⟩) (v := ?_) (by kernel_rfl) (by kernel_rfl) rfl (by kernel_rfl) (by kernel_rfl) (by kernel_rfl) (fun _ _ _ h => h) (Or.inl ⟨by rfl, ?_⟩) (by assumption) ?_
      rotate_left
      · intro w hSw; (try dsimp only at hSw); (try go_split_ands); go_simp; (try (with_reducible rfl))
      (try simp only [Act.put, List.setIfInBounds_toArray, List.set_cons_zero, List.set_cons_succ])
      by_cases hk0 : k = 0
      · subst hk0
        refine wpAnyR_take (i := 6) (oi := ⟨some 19, _, _, _, _, _⟩) (v := ?_) (by kernel_rfl) (by kernel_rfl) rfl (by kernel_rfl) (by kernel_rfl) (by kernel_rfl) (fun _ _ _ h => h) (Or.inl ⟨by rfl, ?_⟩) (by assumption) ?_
        rotate_left
        · intro w hSw; (try dsimp only at hSw); (try go_split_ands); go_simp; (try (with_reducible rfl))
        (try simp only [Act.put, List.setIfInBounds_toArray, List.set_cons_zero, List.set_cons_succ])
        refine wpAnyR_take (i := 7) (oi := ⟨some 20, _, _, _, _, _⟩) (v := ?_) (by kernel_rfl) (by kernel_rfl) rfl (by kernel_rfl) (by kernel_rfl) (by kernel_rfl) (fun _ _ _ h => h) (Or.inl ⟨by rfl, ?_⟩) (by assumption) ?_
        rotate_left
        · intro w hSw; (try dsimp only at hSw); (try go_split_ands); go_simp; (try (with_reducible rfl))
        (try simp only [Act.put, List.setIfInBounds_toArray, List.set_cons_zero, List.set_cons_succ])
        refine wpAnyR_take (i := 8) (oi := ⟨some 21, _, _, _, _, _⟩) (v := ?_) (by kernel_rfl) (by kernel_rfl) rfl (by kernel_rfl) (by kernel_rfl) (by kernel_rfl) (fun _ _ _ h => h) (Or.inl ⟨by rfl, ?_⟩) (by assumption) ?_
        rotate_left
        · intro w hSw; (try dsimp only at hSw); (try go_split_ands); go_simp; (try (with_reducible rfl))
        (try simp only [Act.put, List.setIfInBounds_toArray, List.set_cons_zero, List.set_cons_succ])
        refine wpAnyR_done (by kernel_rfl) ?_ _
        gi_wp2
        refine ⟨M4, fun i hi => ⟨by rcases (hM4 i hi).1 with h | h; exact .inl h; exact .inr (.inr (by omega)), (hM4 i hi).2⟩, hKA1 _ hk4, rfl, .inr ?_⟩
        have he : pre ++ [x] = xs.take many := by
          refine hpp.eq_of_length_le ?_
          simp; omega
        rw [← he]
        exact hJ4
      · have hk0b : ((k : Int) == 0) = false := by simpa using hk0
        have hk0d : decide ((k : Int) = 0) = false := by simpa using hk0
        refine wpAnyR_take (i := 6) (oi := ⟨some 19, _, _, _, _, _⟩) (v := ?_) (by kernel_rfl) (by kernel_rfl) rfl (by kernel_rfl) (by kernel_rfl) (by kernel_rfl) (fun _ _ _ h => h) (Or.inl ⟨by rfl, ?_⟩) (by assumption) ?_
        rotate_left
        · intro w hSw; (try dsimp only at hSw); (try go_split_ands); go_simp; (try (with_reducible rfl))
        (try simp only [Act.put, List.setIfInBounds_toArray, List.set_cons_zero, List.set_cons_succ])
        refine wpAnyR_take (i := 7) (oi := ⟨some 20, _, _, _, _, _⟩) (v := ?_) (by kernel_rfl) (by kernel_rfl) rfl (by kernel_rfl) (by kernel_rfl) (by kernel_rfl) (fun _ _ _ h => h) (Or.inl ⟨by rfl, ?_⟩) (by assumption) ?_
        rotate_left
        · intro w hSw; (try dsimp only at hSw); (try go_split_ands); go_simp; (try (with_reducible rfl))
        (try simp only [Act.put, List.setIfInBounds_toArray, List.set_cons_zero, List.set_cons_succ])
        (try simp only [hk0b, hk0d])
        refine wpAnyR_take (i := 8) (oi := ⟨some 21, _, _, _, _, _⟩) (v := ?_) (by kernel_rfl) (by kernel_rfl) rfl (by kernel_rfl) (by kernel_rfl) (by kernel_rfl) (fun _ _ _ h => h) (Or.inl ⟨by rfl, ?_⟩) (by assumption) ?_
        rotate_left
        · intro w hSw; (try dsimp only at hSw); (try go_split_ands); go_simp; (try (with_reducible rfl))
        (try simp only [Act.put, List.setIfInBounds_toArray, List.set_cons_zero, List.set_cons_succ])
        refine wpAnyR_done (by kernel_rfl) ?_ _
        gi_wp2
        refine ⟨M4, fun i hi => ⟨by rcases (hM4 i hi).1 with h | h; exact .inl h; exact .inr (.inr (by omega)), (hM4 i hi).2⟩, hKA1 _ hk4, hJ4, by simp; omega, ?_⟩
        have h4 := keepX _ hk4'
        rw [h4]
        simp
        omega
    · have hS4 := keep _ hk4'
      refine hK.out _ _ (.inr hS4) ?_
      clear hK K
      (try simp only [Act.put, List.setIfInBounds_toArray, List.set_cons_zero, List.set_cons_succ])
      refine wpAnyR_take (i := 4) (oi := ⟨some 17, _, _, _, _, _⟩) (v := ?_) (by kernel_rfl) (by kernel_rfl) rfl (by kernel_rfl) (by kernel_rfl) (by kernel_rfl) (fun _ _ _ h => h) (Or.inl ⟨by rfl, ?_⟩) (by assumption) ?_
      rotate_left
      · intro w hSw; (try dsimp only at hSw); (try go_split_ands); go_simp; (try (with_reducible rfl))
      (try simp only [Act.put, List.setIfInBounds_toArray, List.set_cons_zero, List.set_cons_succ])
      refine wpAnyR_take (i := 5) (oi := ⟨some 18, _, _, _, _, _⟩) (v := ?_) (by kernel_rfl) (by kernel_rfl) rfl (by kernel_rfl) (by kernel_rfl) (by kernel_rfl) (fun _ _ _ h => h) (Or.inl ⟨by rfl, ?_⟩) (by assumption) ?_
      rotate_left
      · intro w hSw; (try dsimp only at hSw); (try go_split_ands); go_simp; (try (with_reducible rfl))
      (try simp only [Act.put, List.setIfInBounds_toArray, List.set_cons_zero, List.set_cons_succ])
      refine wpAnyR_take (i := 6) (oi := ⟨some 19, _, _, _, _, _⟩) (v := undef) (by kernel_rfl) (by kernel_rfl) rfl (by kernel_rfl) (by kernel_rfl) (by kernel_rfl) (fun _ _ _ h => h) (Or.inr ⟨by rfl, rfl⟩) (by assumption) ?_
      (try simp only [Act.put, List.setIfInBounds_toArray, List.set_cons_zero, List.set_cons_succ])
      refine wpAnyR_take (i := 7) (oi := ⟨some 20, _, _, _, _, _⟩) (v := undef) (by kernel_rfl) (by kernel_rfl) rfl (by kernel_rfl) (by kernel_rfl) (by kernel_rfl) (fun _ _ _ h => h) (Or.inr ⟨by rfl, rfl⟩) (by assumption) ?_
      (try simp only [Act.put, List.setIfInBounds_toArray, List.set_cons_zero, List.set_cons_succ])
      refine wpAnyR_take (i := 8) (oi := ⟨some 21, _, _, _, _, _⟩) (v := ?_) (by kernel_rfl) (by kernel_rfl) rfl (by kernel_rfl) (by kernel_rfl) (by kernel_rfl) (fun _ _ _ h => h) (Or.inl ⟨by rfl, ?_⟩) (by assumption) ?_
      rotate_left
      · intro w hSw; (try dsimp only at hSw); (try go_split_ands); go_simp; (try (with_reducible rfl))
      (try simp only [Act.put, List.setIfInBounds_toArray, List.set_cons_zero, List.set_cons_succ])
      refine wpAnyR_done (by kernel_rfl) ?_ _
      gi_wp2
      refine ⟨M4, fun i hi => ⟨by rcases (hM4 i hi).1 with h | h; exact .inl h; exact .inr (.inr (by omega)), (hM4 i hi).2⟩, hKA1 _ hk4, rfl, .inl ⟨_, hpp, hJ4⟩⟩
  case done2 =>
    intro D2 W3 M3 hI3 hk3 hM3 hD3 hDw3 hDM3
    obtain ⟨hI3, hpl, _⟩ := hI3
    gi_wp2
    refine ⟨by simp, .inl ⟨_, _, rfl, run_takeDeferred hD3, ?_⟩⟩
    obtain ⟨M4, h41, h42, h43⟩ := hI3.ends hJ hMcW hZ hbW1 (Nat.le_trans hz1 hDw3) (fun _ => hDM3) (o := .deferred none)
    rw [← List.take_of_length_le (Nat.le_of_lt hpl)] at h43
    exact ⟨_, results_none rfl _ _ _, ⟨_, rfl⟩, M4, h41, h42, .inl h43⟩
  case stop2 =>
    intro D2 c pre W3 M3 hpre hI3 hk3 hM3 hD3 hDw3 hDM3
    obtain ⟨rfl, hI3⟩ := hI3
    gi_wp2
    refine ⟨by simp, .inl ⟨_, _, rfl, run_takeDeferred hD3, ?_⟩⟩
    rcases hI3 with ⟨y, hy, hI3⟩ | hI3
    · obtain ⟨M4, h41, h42, h43⟩ := hI3.ends hJx hMcW hZ hbW1 (Nat.le_trans hz1 hDw3) (fun _ => hDM3) (o := .deferred none)
      exact ⟨_, results_none rfl _ _ _, ⟨_, rfl⟩, M4, h41, h42, .inr ⟨y, hy, h43⟩⟩
    · obtain ⟨M4, h41, h42, h43⟩ := hI3.ends hJ hMcW hZ hbW1 (Nat.le_trans hz1 hDw3) (fun _ => hDM3) (o := .deferred none)
      exact ⟨_, results_none rfl _ _ _, ⟨_, rfl⟩, M4, h41, h42, .inl h43⟩
end Go.Proofs.YtghblnldokpceaaDoor.QV
/- exec.Filter, exec.Project, exec.Limit as functions. -/
namespace Go.Proofs.YtghblnldokpceaaDoor.QV
open Go.RowKit Go.Proofs.YtghblnldokpceaaDoorW.PrintWords Go.Proofs.YtghblnldokpceaaDoor.Seq Go.Shelf Go.Proofs.YtghblnldokpceaaDoor.Op
set_option linter.unusedVariables false
set_option linter.unusedSimpArgs false
attribute [local go_sem] Oper.semAt_some

theorem infoT : (Tryd.prog.info? 45).map (fun i => (i.zero, i.size, i.bytes)) = some (some (.agg #[.int .i64 0, .int .i64 0, .int .i64 0, .bool false, .int .i64 0, .string ⟨#[]⟩]), 6, 56) := by kernel_rfl
theorem kTm_KM {w W : World} {base : Nat} {ok : Nat → Prop} (x : S45) (cs : List Value) (h : kTm.K w x cs) : kTm.M W base ok x cs := by
  rw [k45_open h]; exact k45_mkM _ _ _ _
set_option maxHeartbeats 1000000 in
theorem clone_terms (A : Option Addr) (l : List S45) (c : Nat) (w : World) (hr : kTm.C w A l.length l) (hc : l.length ≤ c) (hb : l.length * 56 ≤ 140737488355328) :
    Calls Tryd.prog 17 #[.slice A l.length c] w fun e w' => ∃ v, e = .returned v ∧ kTm.R 45 w' w.heap.size (fun _ => True) v l ∧ Below w.heap.size w w' := by
  have hmax := hr.2.1
  cases A with
  | none =>
    have hl : l = [] := by
      cases l with
      | nil => rfl
      | cons x l => obtain ⟨ad, e, _⟩ := hr.2.2 (by simp); cases e
    subst hl
    have hn := Lib.run_eql_slice_nil (P := Tryd.prog)
    go_enter Tryd.func17, Tryd.ntmps17
    go_wp2
    go_ret
    exact ⟨_, rfl, Kd.R_nil _ _ _ _ _, Below.refl _ _⟩
  | some ad =>
    have hn := Lib.run_eql_slice_nil (P := Tryd.prog)
    go_enter Tryd.func17, Tryd.ntmps17
    go_wp2_with (at_builtin; refine Kd.R_append_rows kTm (w0 := w) w.heap.size rfl (.tmp 5) (.tmp 6) 23 45 _ 56 rfl Tryd.underlying23 infoT rfl (by decide) (by decide) (.slice (some ⟨w.heap.size, 0, none⟩) 0 0) [] l (some ad) l.length c (fun _ => True) (fun _ => False) rfl rfl (R_empty' kTm _ _ _ _ (Nat.le_refl _) trivial) (Kd.C_below hr (below_alloc (Below.refl _ _) _)) (fun x cs h => kTm_KM x cs h) (fun _ h => h.elim) (fun _ _ => trivial) (below_alloc (Below.refl _ _) _) (by simp) (by simp; omega) ?_; intro v1 w4 hv1 hB7 hg7 hat7; clear hg7 hat7)
    go_ret
    exact ⟨v1, rfl, by simpa using hv1, hB7⟩
abbrev kI : Kd Int := Kd.int .i64
theorem infoI : (Tryd.prog.info? 3).map (fun i => (i.zero, i.size, i.bytes)) = some (some (.int .i64 0), 1, 8) := by kernel_rfl
theorem kI_KM {w W : World} {base : Nat} {ok : Nat → Prop} (x : Int) (cs : List Value) (h : kI.K w x cs) : kI.M W base ok x cs := h
set_option maxHeartbeats 1000000 in
theorem clone_ints (A : Option Addr) (l : List Int) (c : Nat) (w : World) (hr : kI.C w A l.length l) (hc : l.length ≤ c) (hb : l.length * 8 ≤ 140737488355328) :
    Calls Tryd.prog 23 #[.slice A l.length c] w fun e w' => ∃ v, e = .returned v ∧ kI.R 3 w' w.heap.size (fun _ => True) v l ∧ Below w.heap.size w w' := by
  have hmax := hr.2.1
  cases A with
  | none =>
    have hl : l = [] := by
      cases l with
      | nil => rfl
      | cons x l => obtain ⟨ad, e, _⟩ := hr.2.2 (by simp); cases e
    subst hl
    have hn := Lib.run_eql_slice_nil (P := Tryd.prog)
    go_enter Tryd.func23, Tryd.ntmps23
    go_wp2
    go_ret
    exact ⟨_, rfl, Kd.R_nil _ _ _ _ _, Below.refl _ _⟩
  | some ad =>
    have hn := Lib.run_eql_slice_nil (P := Tryd.prog)
    go_enter Tryd.func23, Tryd.ntmps23
    go_wp2_with (at_builtin; refine Kd.R_append_rows kI (w0 := w) w.heap.size rfl (.tmp 5) (.tmp 6) 24 3 _ 8 rfl Tryd.underlying24 infoI rfl (by decide) (by decide) (.slice (some ⟨w.heap.size, 0, none⟩) 0 0) [] l (some ad) l.length c (fun _ => True) (fun _ => False) rfl rfl (R_empty' kI _ _ _ _ (Nat.le_refl _) trivial) (Kd.C_below hr (below_alloc (Below.refl _ _) _)) (fun x cs h => kI_KM x cs h) (fun _ h => h.elim) (fun _ _ => trivial) (below_alloc (Below.refl _ _) _) (by simp) (by simp; omega) ?_; intro v1 w4 hv1 hB7 hg7 hat7; clear hg7 hat7)
    go_ret
    exact ⟨v1, rfl, by simpa using hv1, hB7⟩

set_option maxHeartbeats 1000000 in
theorem filter_is (xs : List Row) (ts : List S45) (At : Option Addr) (ct : Nat) (sv : Value) (w : World) (hs : IsSeq w sv xs) (hts : kTm.C w At ts.length ts) (hct : ts.length ≤ ct) (hT : Tab w)
    (hb : ∀ x ∈ xs, x.length ≤ 1048576) (hn : ts.length * 56 ≤ 140737488355328) :
    Calls Tryd.prog 7 #[sv, .slice At ts.length ct] w fun e w' => ∃ v, e = .returned v ∧ IsOwn w' v (xs.filter (allS ts)) ∧ Below w.heap.size w w' := by
  obtain ⟨g, lb, Rd, rfl, q⟩ := hs
  have hs : IsSeq w (.func (.func g) #[] lb) xs := ⟨g, lb, Rd, rfl, q⟩
  clear q
  go_enter Tryd.func7, Tryd.ntmps7
  go_wp2_with fail
  have hb1 : Below w.heap.size w (w.alloc (.cells #[.func (.func g) #[] lb] 28)) := below_alloc (Below.refl _ _) _
  have g1 := blk_new w (.cells #[.func (.func g) #[] lb] 28)
  generalize w.alloc (.cells #[.func (.func g) #[] lb] 28) = w1 at hb1 g1 ⊢
  refine (clone_terms At ts ct w1 (Kd.C_below hts hb1) hct (by omega)).mono ?_
  rintro e w2 ⟨v2, rfl, hR2, hb2⟩
  obtain ⟨A2, c2, rfl, hle2, hC2⟩ := Kd.R_reads hR2
  have hB2 := hb1.trans (hb2.mono hb1.size)
  go_wp2_with fail
  go_ret
  obtain ⟨w', hw'⟩ : ∃ w', w2.alloc (.cells #[.slice A2 ts.length c2] 23) = w' := ⟨_, rfl⟩
  rw [hw']
  have hb3 : Below w2.heap.size w2 w' := by rw [← hw']; exact below_alloc (Below.refl _ _) _
  have g2 : w'.heap[w2.heap.size]? = some (.cells #[.slice A2 ts.length c2] 23 (0, 0)) := by rw [← hw']; exact blk_new _ _
  clear hw'
  have hB3 := hB2.trans (hb3.mono hB2.size)
  exact ⟨_, rfl, ⟨_, _, rfl, fun args w => rfl, filter_seq xs ts A2 c2 (.func (.func g) #[] lb) _ _ w' (hs.later hB3) (blk_cell (blk_below (blk_below g1 hb2) hb3) 0) (blk_cell g2 0) (Kd.C_below hC2 hb3) hle2 (hT.below hB3) hb⟩, hB3⟩

set_option maxHeartbeats 1000000 in
theorem project_is (xs : List Row) (cs : List Int) (At : Option Addr) (ct : Nat) (sv : Value) (w : World) (hs : IsSeq w sv xs) (hts : kI.C w At cs.length cs) (hct : cs.length ≤ ct)
    (hcl : cs.length < 3518437208883) :
    Calls Tryd.prog 10 #[sv, .slice At cs.length ct] w fun e w' => ∃ v, e = .returned v ∧ IsOwn w' v (xs.map (fun x => pickS x cs)) ∧ Below w.heap.size w w' := by
  obtain ⟨g, lb, Rd, rfl, q⟩ := hs
  have hs : IsSeq w (.func (.func g) #[] lb) xs := ⟨g, lb, Rd, rfl, q⟩
  clear q
  go_enter Tryd.func10, Tryd.ntmps10
  go_wp2_with fail
  have hb1 : Below w.heap.size w (w.alloc (.cells #[.func (.func g) #[] lb] 28)) := below_alloc (Below.refl _ _) _
  have g1 := blk_new w (.cells #[.func (.func g) #[] lb] 28)
  generalize w.alloc (.cells #[.func (.func g) #[] lb] 28) = w1 at hb1 g1 ⊢
  refine (clone_ints At cs ct w1 (Kd.C_below hts hb1) hct (by omega)).mono ?_
  rintro e w2 ⟨v2, rfl, hR2, hb2⟩
  obtain ⟨A2, c2, rfl, hle2, hC2⟩ := Kd.R_reads hR2
  have hB2 := hb1.trans (hb2.mono hb1.size)
  go_wp2_with fail
  go_ret
  obtain ⟨w', hw'⟩ : ∃ w', w2.alloc (.cells #[.slice A2 cs.length c2] 24) = w' := ⟨_, rfl⟩
  rw [hw']
  have hb3 : Below w2.heap.size w2 w' := by rw [← hw']; exact below_alloc (Below.refl _ _) _
  have g2 : w'.heap[w2.heap.size]? = some (.cells #[.slice A2 cs.length c2] 24 (0, 0)) := by rw [← hw']; exact blk_new _ _
  clear hw'
  have hB3 := hB2.trans (hb3.mono hB2.size)
  exact ⟨_, rfl, ⟨_, _, rfl, fun args w => rfl, project_seq xs cs A2 c2 (.func (.func g) #[] lb) _ _ w' (hs.later hB3) (blk_cell (blk_below (blk_below g1 hb2) hb3) 0) (blk_cell g2 0) (Kd.C_below hC2 hb3) hle2 (by omega)⟩, hB3⟩

set_option maxHeartbeats 1000000 in
theorem limit_is (xs : List Row) (many : Nat) (n : Int) (hnm : n = (many : Int)) (sv : Value) (w : World) (hs : IsSeq w sv xs) (hb : ∀ x ∈ xs, x.length ≤ 1048576) (hm : many ≤ 9223372036854775807) :
    Calls Tryd.prog 15 #[sv, .int .i64 n] w fun e w' => ∃ v, e = .returned v ∧ IsOwn w' v (xs.take many) ∧ Below w.heap.size w w' := by
  subst hnm
  obtain ⟨g, lb, Rd, rfl, q⟩ := hs
  have hs : IsSeq w (.func (.func g) #[] lb) xs := ⟨g, lb, Rd, rfl, q⟩
  clear q
  go_enter Tryd.func15, Tryd.ntmps15
  go_wp2
  go_ret
  obtain ⟨w', hw'⟩ : ∃ w', (w.alloc (.cells #[.func (.func g) #[] lb] 28)).alloc (.cells #[.int .i64 many] 3) = w' := ⟨_, rfl⟩
  rw [hw']
  have hB3 : Below w.heap.size w w' := by rw [← hw']; exact below_alloc (below_alloc (Below.refl _ _) _) _
  have g1 : w'.heap[w.heap.size]? = some (.cells #[.func (.func g) #[] lb] 28 (0, 0)) := by rw [← hw']; exact blk_alloc (blk_new _ _) _
  have g2 : w'.heap[w.heap.size + 1]? = some (.cells #[.int .i64 many] 3 (0, 0)) := by
    have := blk_new (w.alloc (.cells #[.func (.func g) #[] lb] 28)) (.cells #[.int .i64 many] 3)
    rw [World.size_alloc] at this
    rw [← hw']; exact this
  clear hw'
  exact ⟨_, rfl, ⟨_, _, rfl, fun args w => rfl, limit_seq xs many (.func (.func g) #[] lb) _ _ w' (hs.later hB3) (blk_cell g2 0) (blk_cell g1 0) hm hb⟩, hB3⟩
end Go.Proofs.YtghblnldokpceaaDoor.QV
/- ExecFilters: the walk. -/
namespace Go.Proofs.YtghblnldokpceaaDoor.QV
open Go.RowKit Go.Proofs.YtghblnldokpceaaDoorW.PrintWords Go.Proofs.YtghblnldokpceaaDoor.SeqW Go.Shelf Go.Proofs.YtghblnldokpceaaDoor.Op
set_option linter.unusedVariables false
set_option linter.unusedSimpArgs false

theorem btr {a b c : World} (h : Below a.heap.size a b) (k : Below b.heap.size b c) : Below a.heap.size a c := h.trans (k.mono h.size)
theorem pickS_len (x : Row) (cs : List Int) : (pickS x cs).length = cs.length := by simp [pickS]
end Go.Proofs.YtghblnldokpceaaDoor.QV
/- ExecTwice: the walk. -/
namespace Go.Proofs.YtghblnldokpceaaDoor.QV
open Go.RowKit Go.Proofs.YtghblnldokpceaaDoorW.PrintWords Go.Proofs.YtghblnldokpceaaDoor.SeqW Go.Shelf Go.Proofs.YtghblnldokpceaaDoor.Op
set_option linter.unusedVariables false
set_option linter.unusedSimpArgs false

theorem allS_cut (ts : List S45) (k : Nat) (x : Row) : (allS (ts.take k) x && allS (ts.drop k) x) = allS ts x := by
  unfold allS allB
  rw [← List.all_append, ← List.map_append, List.take_append_drop]
theorem filter_cut (ts : List S45) (k : Nat) (xs : List Row) : (xs.filter (allS (ts.take k))).filter (allS (ts.drop k)) = xs.filter (allS ts) := by
  rw [List.filter_filter]
  refine List.filter_congr (fun x _ => ?_)
  rw [Bool.and_comm, allS_cut]
def upS (n : Nat) : List Int := (List.range n).map (fun i : Nat => (i : Int))
theorem upS_len (n : Nat) : (upS n).length = n := by simp [upS]
theorem upS_succ (n : Nat) : upS (n + 1) = upS n ++ [(n : Int)] := by simp [upS, List.range_succ]
theorem pick_up (x : Row) (cs : List Int) : pickS (pickS x cs) (upS cs.length) = pickS x cs := by
  refine List.ext_getElem (by simp [pickS, upS]) (fun i h1 h2 => ?_)
  have hi : i < cs.length := by simpa [pickS] using h2
  have h : (pickS (pickS x cs) (upS cs.length))[i] = atS (pickS x cs) (i : Int) := by simp [pickS, upS]
  rw [h]
  unfold atS
  rw [if_neg (by omega), if_neg (by rw [pickS_len]; omega), List.getD_eq_getElem?_getD, Int.toNat_natCast, List.getElem?_eq_getElem h2]
  rfl
theorem take_two (xs : List Row) (n : Nat) : (xs.take (n + 1)).take n = xs.take n := by
  rw [List.take_take, Nat.min_eq_left (by omega)]
theorem filter_isN (xs : List Row) (ts : List S45) (n : Nat) (hn' : ts.length = n) (At : Option Addr) (ct : Nat) (sv : Value) (w : World) (hs : IsSeq w sv xs) (hts : kTm.C w At ts.length ts) (hct : n ≤ ct) (hT : Tab w)
    (hb : ∀ x ∈ xs, x.length ≤ 1048576) (hn : n * 56 ≤ 140737488355328) :
    Calls Tryd.prog 7 #[sv, .slice At n ct] w fun e w' => ∃ v, e = .returned v ∧ IsOwn w' v (xs.filter (allS ts)) ∧ Below w.heap.size w w' := by
  subst hn'
  exact filter_is xs ts At ct sv w hs hts hct hT hb hn
theorem project_isN (xs : List Row) (cs : List Int) (n : Nat) (hn' : cs.length = n) (At : Option Addr) (ct : Nat) (sv : Value) (w : World) (hs : IsSeq w sv xs) (hts : kI.C w At cs.length cs) (hct : n ≤ ct) (hcl : n < 3518437208883) :
    Calls Tryd.prog 10 #[sv, .slice At n ct] w fun e w' => ∃ v, e = .returned v ∧ IsOwn w' v (xs.map (fun x => pickS x cs)) ∧ Below w.heap.size w w' := by
  subst hn'
  exact project_is xs cs At ct sv w hs hts hct hcl
theorem all_isE (sv : Value) (xs : List Row) (w : World) (h : IsOwn w sv xs) (hx : ∀ x ∈ xs, x.length ≤ 1048576) (hn : xs.length ≤ 1048576) :
    Calls Tryd.prog 14 #[sv] w fun e w' => ∃ v, e = .returned v ∧ Kd.S kRows tRow w' w.heap.size (fun _ => True) v xs ∧ Below w.heap.size w w' :=
  all_is sv xs w w h (Below.refl _ _) (fun x h => by have := hx x h; omega) (by omega)
set_option maxRecDepth 100000 in
set_option maxHeartbeats 4000000 in
theorem walkTwice (A0 : Option Addr) (c0 : Nat) (x0 : List Row) (A1 : Option Addr) (c1 : Nat) (x1 : List S45) (A2 : Option Addr) (c2 : Nat) (x2 : List Int) (w : World) (H0 : kRows.C w A0 x0.length x0) (C0 : x0.length ≤ c0) (H1 : kTm.C w A1 x1.length x1) (C1 : x1.length ≤ c1) (H2 : kI.C w A2 x2.length x2) (C2 : x2.length ≤ c2)
    (hL : ∀ x ∈ x0, x.length ≤ 1048576) (n0 : x0.length ≤ 1048576) (n1 : x1.length ≤ 1048576) (n2 : x2.length ≤ 1048576) (hT : Tab w) :
    Calls Tryd.prog 4 #[.slice A0 x0.length c0, .slice A1 x1.length c1, .slice A2 x2.length c2] w fun e w' => e = .returned (.bool true) ∧ Below w.heap.size w w' := by
  obtain ⟨k0, hk0⟩ := copied_f x0 (by omega) (fun x hx => by have := hL x hx; omega)
  have hfl : (x0.filter (allS x1)).length ≤ x0.length := List.length_filter_le _ _
  have hfr : ∀ x ∈ x0.filter (allS x1), x.length ≤ 1048576 := fun x hx => hL x (List.mem_filter.1 hx).1
  obtain ⟨PL, hPL⟩ : ∃ PL, x0.map (fun x => pickS x x2) = PL := ⟨_, rfl⟩
  have hpl : PL.length ≤ x0.length := by rw [← hPL, List.length_map]; exact Nat.le_refl _
  have hpr : ∀ x ∈ PL, x.length ≤ 1048576 := fun x hx => by rw [← hPL] at hx; obtain ⟨y, _, rfl⟩ := List.mem_map.1 hx; rw [pickS_len]; exact n2
  have hpp : PL.map (fun x => pickS x (upS x2.length)) = PL := by
    rw [← hPL, List.map_map]
    exact List.map_congr_left (fun x _ => pick_up x x2)
  obtain ⟨TL, hTL⟩ : ∃ TL, x0.take x2.length = TL := ⟨_, rfl⟩
  have htl : TL.length ≤ x0.length := by rw [← hTL]; exact List.length_take_le' _ _
  have htr : ∀ x ∈ TL, x.length ≤ 1048576 := fun x hx => by rw [← hTL] at hx; exact hL x (List.mem_of_mem_take hx)
  have htt : (x0.take (x2.length + 1)).take x2.length = TL := by rw [take_two, hTL]
  have ht1 : ∀ x ∈ x0.take (x2.length + 1), x.length ≤ 1048576 := fun x hx => hL x (List.mem_of_mem_take hx)
  obtain ⟨k2, hk2⟩ := same_self PL (by omega) (fun x hx => by have := hpr x hx; omega)
  obtain ⟨k3, hk3⟩ := same_self TL (by omega) (fun x hx => by have := htr x hx; omega)
  obtain ⟨FL, hFL⟩ : ∃ FL, x0.filter (allS x1) = FL := ⟨_, rfl⟩
  obtain ⟨kh, hK2⟩ : ∃ kh : Nat, kh = x1.length / 2 := ⟨_, rfl⟩
  have hKle : kh ≤ x1.length := by omega
  have hKc : kh ≤ c1 := by omega
  have hKl : (x1.take kh).length = kh := by rw [List.length_take]; omega
  have hKd : (x1.drop kh).length = x1.length - kh := List.length_drop ..
  have hq : Int.tdiv (x1.length : Int) 2 = (kh : Int) := by rw [hK2, Int.tdiv_eq_ediv_of_nonneg (by omega)]; omega
  have hfc := filter_cut x1 kh x0
  have hfg : ∀ x ∈ x0.filter (allS (x1.take kh)), x.length ≤ 1048576 := fun x hx => hL x (List.mem_filter.1 hx).1
  obtain ⟨k1, hk1⟩ := same_self FL (by rw [← hFL]; omega) (fun x hx => by rw [← hFL] at hx; have := hfr x hx; omega)
  rw [hFL] at hfl hfr hfc
  have hTl := Kd.C_take H1 hKle
  have hTd : kTm.C w (if c1 = kh then A1 else Option.map (fun x => x.add (kh * 6)) A1) (x1.drop kh).length (x1.drop kh) := Kd.C_drop H1 hKle C1
  clear hK2
  have HKL := Lib.hid hKl
  have HKD := Lib.hid hKd
  clear hKl hKd
  have hKm : kh ≤ 1048576 := by omega
  go_enter Tryd.func4, Tryd.ntmps4
  go_wp2_with fail
  refine (hayloftlaw15_copied.calls k0 A0 c0 x0 x0 w H0 C0 hk0).mono ?_
  rintro e w2 ⟨v2, rfl, hS2, hb2⟩
  obtain ⟨B2, m2, rfl, hle2, hC2⟩ := Kd.S_reads hS2
  go_wp2_with fail
  refine (values_is B2 x0 m2 w2 hC2).mono ?_
  rintro e w3 ⟨v3, rfl, hs3, hb3⟩
  obtain ⟨f3, l3, rfl⟩ := hs3.form
  have hB3 := btr hb2 hb3
  go_wp2_with fail
  refine (filter_is x0 x1 A1 c1 _ w3 hs3 (Kd.C_below H1 hB3) C1 (hT.below hB3) hL (by omega)).mono ?_
  rintro e w4 ⟨v4, rfl, hs4, hb4⟩
  rw [hFL] at hs4
  obtain ⟨f4, l4, rfl⟩ := hs4.seq.form
  have hB4 := btr hB3 hb4
  go_wp2_with fail
  refine (all_is _ FL w4 w4 hs4 (Below.refl _ _) (fun x hx => by have := hfr x hx; omega) (by omega)).mono ?_
  rintro e w5 ⟨v5, rfl, hS5, hb5⟩
  obtain ⟨B5, m5, rfl, hle5, hC5⟩ := Kd.S_reads hS5
  have hB5 := btr hB4 hb5
  go_wp2_with fail
  refine (wpIn_wide (n := 0)).1 ?_
  refine wpIn_region_R (l := 0) 13 (S := fun _ => True) (by kernel_rfl) trivial (fun hS0 => ?_)
  refine wpAnyR_take (i := 0) (oi := ⟨some 25, _, _, _, _, _⟩) (v := ?_) (by kernel_rfl) (by kernel_rfl) rfl (by kernel_rfl) (by kernel_rfl) (by kernel_rfl) (fun _ _ _ h => h) (Or.inl ⟨by rfl, ?_⟩) (by assumption) ?_
  rotate_left
  · intro w hSw; (try dsimp only at hSw); (try go_split_ands); go_simp; (try (with_reducible rfl))
  (try simp only [Act.put, List.setIfInBounds_toArray, List.set_cons_zero, List.set_cons_succ])
  refine wpAnyR_take (i := 3) (oi := ⟨some 28, _, _, _, _, _⟩) (v := ?_) (by kernel_rfl) (by kernel_rfl) rfl (by kernel_rfl) (by kernel_rfl) (by kernel_rfl) (fun _ _ _ h => h) (Or.inl ⟨by rfl, ?_⟩) (by assumption) ?_
  rotate_left
  · intro w hSw; (try dsimp only at hSw); (try go_split_ands); go_simp; (try (with_reducible rfl))
  (try simp only [Act.put, List.setIfInBounds_toArray, List.set_cons_zero, List.set_cons_succ])
  refine wpAnyR_take (i := 4) (oi := ⟨some 29, _, _, _, _, _⟩) (v := ?_) (by kernel_rfl) (by kernel_rfl) rfl (by kernel_rfl) (by kernel_rfl) (by kernel_rfl) (fun _ _ _ h => h) (Or.inl ⟨by rfl, ?_⟩) (by assumption) ?_
  rotate_left
  · intro w hSw; (try dsimp only at hSw); (try go_split_ands); go_simp; (try (with_reducible rfl))
  (try simp only [Act.put, List.setIfInBounds_toArray, List.set_cons_zero, List.set_cons_succ])
  refine wpAnyR_take (i := 5) (oi := ⟨some 30, _, _, _, _, _⟩) (v := ?_) (by kernel_rfl) (by kernel_rfl) rfl (by kernel_rfl) (by kernel_rfl) (by kernel_rfl) (fun _ _ _ h => h) (Or.inl ⟨by rfl, ?_⟩) (by assumption) ?_
  rotate_left
  · intro w hSw; (try dsimp only at hSw); (try go_split_ands); go_simp; (try (with_reducible rfl))
  (try simp only [Act.put, List.setIfInBounds_toArray, List.set_cons_zero, List.set_cons_succ])
  refine wpAnyR_take (i := 7) (oi := ⟨some 32, _, _, _, _, _⟩) (v := ?_) (by kernel_rfl) (by kernel_rfl) rfl (by kernel_rfl) (by kernel_rfl) (by kernel_rfl) (fun _ _ _ h => h) (Or.inl ⟨by rfl, ?_⟩) (by assumption) ?_
  rotate_left
  · intro w hSw; (try dsimp only at hSw); (try go_split_ands); go_simp; (try (with_reducible rfl))
  (try simp only [Act.put, List.setIfInBounds_toArray, List.set_cons_zero, List.set_cons_succ])
  refine wpAnyR_take (i := 8) (oi := ⟨some 33, _, _, _, _, _⟩) (v := ?_) (by kernel_rfl) (by kernel_rfl) rfl (by kernel_rfl) (by kernel_rfl) (by kernel_rfl) (fun _ _ _ h => h) (Or.inl ⟨by rfl, ?_⟩) (by assumption) ?_
  rotate_left
  · intro w hSw; (try dsimp only at hSw); (try go_split_ands); go_simp; (try (with_reducible rfl))
  (try simp only [Act.put, List.setIfInBounds_toArray, List.set_cons_zero, List.set_cons_succ])
  refine wpAnyR_take (i := 9) (oi := ⟨some 34, _, _, _, _, _⟩) (v := ?_) (by kernel_rfl) (by kernel_rfl) rfl (by kernel_rfl) (by kernel_rfl) (by kernel_rfl) (fun _ _ _ h => h) (Or.inl ⟨by rfl, ?_⟩) (by assumption) ?_
  rotate_left
  · intro w hSw; (try dsimp only at hSw); (try go_split_ands); go_simp; (try (with_reducible rfl))
  (try simp only [Act.put, List.setIfInBounds_toArray, List.set_cons_zero, List.set_cons_succ])
  generalize (if c1 = kh then A1 else Option.map (fun x => x.add (kh * 6)) A1) = AD at hTd ⊢
  refine wpAnyR_one (i := 1) (o := ⟨some 26, _, _, _, _, _⟩) (by kernel_rfl) (by kernel_rfl) rfl (fun K hK => ?_)
  go_simp
  refine (hayloftlaw15_copied.calls k0 A0 c0 x0 x0 _ (Kd.C_drew (Kd.C_below H0 hB5)) C0 hk0).mono ?_
  rintro e w6 ⟨v6, rfl, hS6, hb6⟩
  obtain ⟨B6, m6, rfl, hle6, hC6⟩ := Kd.S_reads hS6
  have hB6 : Below w.heap.size w w6 := btr (btr hB5 (below_drew (Below.refl _ _))) hb6
  (try dsimp only)
  refine hK.out _ _ (.inr trivial) ?_
  clear hK K
  (try simp only [Act.put, List.setIfInBounds_toArray, List.set_cons_zero, List.set_cons_succ])
  refine wpAnyR_one (i := 2) (o := ⟨some 27, _, _, _, _, _⟩) (by kernel_rfl) (by kernel_rfl) rfl (fun K hK => ?_)
  go_simp
  refine (values_is B6 x0 m6 w6 hC6).mono ?_
  rintro e w7 ⟨v7, rfl, hs7, hb7⟩
  obtain ⟨f7, l7, rfl⟩ := hs7.form
  have hB7 := btr hB6 hb7
  (try dsimp only)
  refine hK.out _ _ (.inr trivial) ?_
  clear hK K
  (try simp only [Act.put, List.setIfInBounds_toArray, List.set_cons_zero, List.set_cons_succ])
  refine wpAnyR_one (i := 6) (o := ⟨some 31, _, _, _, _, _⟩) (by kernel_rfl) (by kernel_rfl) rfl (fun K hK => ?_)
  go_simp
  refine (filter_isN x0 (x1.take kh) kh HKL.out A1 c1 _ w7 hs7 (Kd.C_below hTl hB7) hKc (hT.below hB7) hL (by omega)).mono ?_
  rintro e w8 ⟨v8, rfl, hs8, hb8⟩
  obtain ⟨f8, l8, rfl⟩ := hs8.seq.form
  have hB8 := btr hB7 hb8
  (try dsimp only)
  refine hK.out _ _ (.inr trivial) ?_
  clear hK K
  (try simp only [Act.put, List.setIfInBounds_toArray, List.set_cons_zero, List.set_cons_succ])
  refine wpAnyR_one (i := 10) (o := ⟨some 35, _, _, _, _, _⟩) (by kernel_rfl) (by kernel_rfl) rfl (fun K hK => ?_)
  go_simp
  refine (filter_isN _ (x1.drop kh) (x1.length - kh) HKD.out _ (c1 - kh) _ w8 hs8.seq (Kd.C_below hTd hB8) (by omega) (hT.below hB8) hfg (by omega)).mono ?_
  rintro e w9 ⟨v9, rfl, hs9, hb9⟩
  rw [hfc] at hs9
  obtain ⟨f9, l9, rfl⟩ := hs9.seq.form
  have hB9 := btr hB8 hb9
  (try dsimp only)
  refine hK.out _ _ (.inr trivial) ?_
  clear hK K
  (try simp only [Act.put, List.setIfInBounds_toArray, List.set_cons_zero, List.set_cons_succ])
  refine wpAnyR_one (i := 11) (o := ⟨some 36, _, _, _, _, _⟩) (by kernel_rfl) (by kernel_rfl) rfl (fun K hK => ?_)
  go_simp
  refine (all_isE _ FL w9 hs9 hfr (by omega)).mono ?_
  rintro e w10 ⟨v10, rfl, hS10, hb10⟩
  obtain ⟨B10, m10, rfl, hle10, hC10⟩ := Kd.S_reads hS10
  have hB10 := btr hB9 hb10
  (try dsimp only)
  refine hK.out _ _ (.inr trivial) ?_
  clear hK K
  (try simp only [Act.put, List.setIfInBounds_toArray, List.set_cons_zero, List.set_cons_succ])
  refine wpAnyR_take (i := 12) (oi := ⟨some 9, _, _, _, _, _⟩) (v := ?_) (by kernel_rfl) (by kernel_rfl) rfl (by kernel_rfl) (by kernel_rfl) (by kernel_rfl) (fun _ _ _ h => h) (Or.inl ⟨by rfl, ?_⟩) (by assumption) ?_
  rotate_left
  · intro w hSw; (try dsimp only at hSw); (try go_split_ands); go_simp; (try (with_reducible rfl))
  (try simp only [Act.put, List.setIfInBounds_toArray, List.set_cons_zero, List.set_cons_succ])
  refine wpAnyR_done (by kernel_rfl) ?_ _
  go_wp2_with fail
  refine (aliveX_any _).mono ?_
  rintro e w11 ⟨rfl, hb11⟩
  have hB11 := btr hB10 hb11
  go_wp2_with fail
  have hb511 := btr (btr (btr (btr (btr (btr (below_drew (Below.refl _ w5)) hb6) hb7) hb8) hb9) hb10) hb11
  refine (hayloftref02_SameAll.calls k1 B5 m5 FL B10 m10 FL true w11 (Kd.C_below hC5 hb511) hle5 (Kd.C_below hC10 hb11) hle10 hk1).mono ?_
  rintro e w12 ⟨rfl, hd12⟩
  have hB12 := btr hB11 hd12.below
  go_wp2_with fail
  clear hS2 hC2 hs3 hs4 hS5 hC5 hS6 hC6 hs7 hs8 hs9 hS10 hC10 hb511 hTl hTd
  have hn2 : (x2.length + 1) * 8 ≤ 140737488355328 := by omega
  go_loopw [10, 47] (fun v i wr => ∃ k : Nat, k ≤ x2.length ∧ i = .int .i64 k ∧ kI.R 3 wr w.heap.size (fun _ => True) v (upS k) ∧ Below w.heap.size w wr) (fun _ i _ => x2.length - (intOf i).toNat)
  case atStart => exact ⟨0, Nat.zero_le _, rfl, Kd.R_nil _ _ _ _ _, hB12⟩
  case round =>
    obtain ⟨k, hk, rfl, hv, hB⟩ := hrel
    by_cases hlt : k < x2.length
    · have hkl := upS_len k
      have hks := upS_succ k
      generalize upS k = U at *
      have hbd : (U.length + 1) * 8 ≤ 140737488355328 := by omega
      clear hkl
      go_wp2_with (at_builtin; refine Kd.R_append kI (w0 := w) w.heap.size rfl (.tmp 50) (.tmp 52) 24 3 _ 8 rfl Tryd.underlying24 infoI rfl (by decide) (by decide) u10 U (k : Int) [.int .i64 k] (fun _ => True) (fun _ => False) rfl rfl rfl (fun _ h => h.elim) (fun _ _ => trivial) hv hB hB.size hbd ?_; intro v1 w1 hv1 hB1 hg1 hat1; clear hg1 hat1)
      go_roundw
      case rel => exact ⟨k + 1, by omega, by go_num, by rw [hks]; exact hv1, hB1⟩
      case measure => simp [intOf]; omega
    · obtain rfl : k = x2.length := by omega
      go_wp2_with fail
      have hUl := upS_len x2.length
      generalize upS x2.length = U at *
      have HUL := Lib.hid hUl
      clear hUl
      obtain ⟨UA, cu, rfl⟩ := Kd.R_slice hv
      obtain ⟨_, hleU, hCU⟩ := Kd.R_reads' hv
      refine (hayloftlaw15_copied.calls k0 A0 c0 x0 x0 wr (Kd.C_below H0 hB) C0 hk0).mono ?_
      rintro e z1 ⟨y1, rfl, hS1, hd1⟩
      obtain ⟨D1, p1, rfl, hl1, hC1⟩ := Kd.S_reads hS1
      have hE1 := btr hB hd1
      go_wp2_with fail
      refine (values_is D1 x0 p1 z1 hC1).mono ?_
      rintro e z2 ⟨y2, rfl, hs2, hd2⟩
      obtain ⟨g2, e2, rfl⟩ := hs2.form
      have hE2 := btr hE1 hd2
      go_wp2_with fail
      refine (project_is x0 x2 A2 c2 _ z2 hs2 (Kd.C_below H2 hE2) C2 (by omega)).mono ?_
      rintro e z3 ⟨y3, rfl, hs3, hd3⟩
      rw [hPL] at hs3
      obtain ⟨g3, e3, rfl⟩ := hs3.seq.form
      have hE3 := btr hE2 hd3
      go_wp2_with fail
      refine (all_isE _ PL z3 hs3 hpr (by omega)).mono ?_
      rintro e z4 ⟨y4, rfl, hS4, hd4⟩
      obtain ⟨D4, p4, rfl, hl4, hC4⟩ := Kd.S_reads hS4
      have hE4 := btr hE3 hd4
      go_wp2_with fail
      refine (hayloftlaw15_copied.calls k0 A0 c0 x0 x0 z4 (Kd.C_below H0 hE4) C0 hk0).mono ?_
      rintro e z5 ⟨y5, rfl, hS5, hd5⟩
      obtain ⟨D5, p5, rfl, hl5, hC5⟩ := Kd.S_reads hS5
      have hE5 := btr hE4 hd5
      go_wp2_with fail
      refine (values_is D5 x0 p5 z5 hC5).mono ?_
      rintro e z6 ⟨y6, rfl, hs6, hd6⟩
      obtain ⟨g6, e6, rfl⟩ := hs6.form
      have hE6 := btr hE5 hd6
      go_wp2_with fail
      refine (project_is x0 x2 A2 c2 _ z6 hs6 (Kd.C_below H2 hE6) C2 (by omega)).mono ?_
      rintro e z7 ⟨y7, rfl, hs7, hd7⟩
      rw [hPL] at hs7
      obtain ⟨g7, e7, rfl⟩ := hs7.seq.form
      have hE7 := btr hE6 hd7
      have hr7 := btr (btr (btr (btr (btr (btr hd1 hd2) hd3) hd4) hd5) hd6) hd7
      go_wp2_with fail
      refine (project_isN PL U U.length rfl UA cu _ z7 hs7.seq (Kd.C_below hCU hr7) hleU (by rw [HUL.out]; omega)).mono ?_
      rintro e z8 ⟨y8, rfl, hs8, hd8⟩
      rw [hpp] at hs8
      obtain ⟨g8, e8, rfl⟩ := hs8.seq.form
      have hE8 := btr hE7 hd8
      go_wp2_with fail
      refine (all_isE _ PL z8 hs8 hpr (by omega)).mono ?_
      rintro e z9 ⟨y9, rfl, hS9, hd9⟩
      obtain ⟨D9, p9, rfl, hl9, hC9⟩ := Kd.S_reads hS9
      have hE9 := btr hE8 hd9
      go_wp2_with fail
      refine (hayloftlaw15_copied.calls k0 A0 c0 x0 x0 z9 (Kd.C_below H0 hE9) C0 hk0).mono ?_
      rintro e q1 ⟨y1, rfl, hS1, hf1⟩
      obtain ⟨F1, r1, rfl, hm1, hC1⟩ := Kd.S_reads hS1
      have hG1 := btr hE9 hf1
      go_wp2_with fail
      refine (values_is F1 x0 r1 q1 hC1).mono ?_
      rintro e q2 ⟨y2, rfl, hs2, hf2⟩
      obtain ⟨g2, e2, rfl⟩ := hs2.form
      have hG2 := btr hG1 hf2
      go_wp2_with fail
      refine (limit_is x0 (x2.length + 1) _ (by omega) _ q2 hs2 hL (by omega)).mono ?_
      rintro e q3 ⟨y3, rfl, hs3, hf3⟩
      obtain ⟨g3, e3, rfl⟩ := hs3.seq.form
      have hG3 := btr hG2 hf3
      go_wp2_with fail
      refine (limit_is _ x2.length _ rfl _ q3 hs3.seq ht1 (by omega)).mono ?_
      rintro e q4 ⟨y4, rfl, hs4, hf4⟩
      rw [htt] at hs4
      obtain ⟨g4, e4, rfl⟩ := hs4.seq.form
      have hG4 := btr hG3 hf4
      go_wp2_with fail
      refine (all_isE _ TL q4 hs4 htr (by omega)).mono ?_
      rintro e q5 ⟨y5, rfl, hS5, hf5⟩
      obtain ⟨F5, r5, rfl, hm5, hD5⟩ := Kd.S_reads hS5
      have hG5 := btr hG4 hf5
      go_wp2_with fail
      have hz49 := btr (btr (btr (btr (btr hd5 hd6) hd7) hd8) hd9) (btr (btr (btr (btr hf1 hf2) hf3) hf4) hf5)
      have hz95 := btr (btr (btr (btr hf1 hf2) hf3) hf4) hf5
      refine (hayloftref02_SameAll.calls k2 D4 p4 PL D9 p9 PL true q5 (Kd.C_below hC4 hz49) hl4 (Kd.C_below hC9 hz95) hl9 hk2).mono ?_
      rintro e q6 ⟨rfl, hd12⟩
      have hG6 := btr hG5 hd12.below
      go_wp2_with fail
      refine (hayloftlaw15_copied.calls k0 A0 c0 x0 x0 q6 (Kd.C_below H0 hG6) C0 hk0).mono ?_
      rintro e q7 ⟨y7, rfl, hS7, hf7⟩
      obtain ⟨F7, r7, rfl, hm7, hD7⟩ := Kd.S_reads hS7
      have hG7 := btr hG6 hf7
      go_wp2_with fail
      refine (values_is F7 x0 r7 q7 hD7).mono ?_
      rintro e q8 ⟨y8, rfl, hs8, hf8⟩
      obtain ⟨g8, e8, rfl⟩ := hs8.form
      have hG8 := btr hG7 hf8
      go_wp2_with fail
      refine (limit_is x0 x2.length _ rfl _ q8 hs8 hL (by omega)).mono ?_
      rintro e q9 ⟨y9, rfl, hs9, hf9⟩
      rw [hTL] at hs9
      obtain ⟨g9, e9, rfl⟩ := hs9.seq.form
      have hG9 := btr hG8 hf9
      go_wp2_with fail
      refine (all_isE _ TL q9 hs9 htr (by omega)).mono ?_
      rintro e q10 ⟨y10, rfl, hS10, hf10⟩
      obtain ⟨F10, r10, rfl, hm10, hD10⟩ := Kd.S_reads hS10
      have hG10 := btr hG9 hf10
      go_wp2_with fail
      have hq510 := btr (btr (btr (btr hd12.below hf7) hf8) hf9) hf10
      refine (hayloftref02_SameAll.calls k3 F5 r5 TL F10 r10 TL true q10 (Kd.C_below hD5 hq510) hm5 hD10 hm10 hk3).mono ?_
      rintro e q11 ⟨rfl, hd13⟩
      go_wp2_with fail
      go_ret
      exact ⟨rfl, btr hG10 hd13.below⟩
end Go.Proofs.YtghblnldokpceaaDoor.QV
