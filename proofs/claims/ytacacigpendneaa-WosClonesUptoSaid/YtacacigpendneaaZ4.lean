/- The parts WStep4, WStep5, WStep6, WStep7, WRun, LWAll, LWClones of this proof, one behind the other. -/
import Derived.Test.YtacacigpendneaaZ3
/- hayloftlaw10.step: a purge. -/
namespace Go.Proofs.Ytacacigpendneaa.QV
open Go.RowKit Go.Proofs.YtacacigpendneaaW.PrintWords Go.Proofs.Ytacacigpendneaa.Mp Go.Proofs.Ytacacigpendneaa.Seq Go.Shelf
set_option linter.unusedVariables false
set_option linter.unusedSimpArgs false
set_option maxRecDepth 100000
def stays (E : Int) (x : Ver) : Bool := !(x.f2 != 0 && decide (x.f2 ≤ E))
theorem stays_or (E : Int) (x : Ver) : stays E x = true ↔ (x.f2 = 0 ∨ x.f2 > E) := by
  unfold stays
  by_cases h : x.f2 = 0
  · simp [h]
  · have : (x.f2 != 0) = true := bne_iff_ne.2 h
    rw [this, Bool.true_and, Bool.not_eq_true', decide_eq_false_iff_not]
    omega
theorem filter_take (l : List Ver) (q : Ver → Bool) (k : Nat) (h : k < l.length) : (l.take (k + 1)).filter q = if q l[k] = true then (l.take k).filter q ++ [l[k]] else (l.take k).filter q := by
  rw [List.take_succ_eq_append_getElem h, List.filter_append, List.filter_cons]
  split <;> simp
theorem purge_l0 (l : List Ver) (hl : l.length < 2932031007402) (E : Int) : ∀ (n i : Nat), i + n = l.length → hayloftref10_Purge.l0 (n + 1) l E ((l.take i).filter (stays E)) i = some (l.filter (stays E)) := by
  intro n
  induction n with
  | zero =>
    intro i hi
    rw [Nat.add_zero] at hi
    subst hi
    rw [hayloftref10_Purge.l0, if_neg (by omega), List.take_length]
  | succ n ih =>
    intro i hi
    have hil : i < l.length := by omega
    have hw : wrap64 ((i : Int) + 1) = ((i + 1 : Nat) : Int) := by rw [wrap_succ i (by omega)]; rfl
    have hg : rd_T29 l (i : Int) = l[i] := by rw [rdVer, List.getD_eq_getElem?_getD, List.getElem?_eq_getElem hil]; rfl
    have hlen : ((l.take i).filter (stays E)).length < 2932031007402 := Nat.lt_of_le_of_lt (List.length_filter_le _ _) (by rw [List.length_take]; omega)
    have hft := filter_take l (stays E) i hil
    have h1 := ih (i + 1) (by omega)
    have hso := stays_or E l[i]
    rw [hayloftref10_Purge.l0, if_pos (by omega), if_pos (Int.natCast_nonneg i), hw, hg, ver_eta]
    by_cases h0 : l[i].f2 = 0
    · rw [if_pos h0, if_pos hlen]
      rw [hft, if_pos (hso.2 (.inl h0))] at h1
      exact h1
    · rw [if_neg h0]
      by_cases h2 : l[i].f2 > E
      · rw [if_pos h2, if_pos hlen]
        rw [hft, if_pos (hso.2 (.inr h2))] at h1
        exact h1
      · rw [if_neg h2]
        rw [hft, if_neg (fun hs => by rcases hso.1 hs with z | z; exact h0 z; exact h2 z)] at h1
        exact h1
theorem purge_f (l : List Ver) (hl : l.length < 2932031007402) (E : Int) : hayloftref10_Purge.f (l.length + 1) l E = some (l.filter (stays E)) := by
  have h := purge_l0 l hl E l.length 0 (by omega)
  rw [List.take_zero] at h
  exact h
theorem told_filter {F : Nm → Option Ver} {L : List Ver} (h : IsTold F L) (q : Ver → Bool) : IsTold (fun k => (F k).filter q) (L.filter q) := by
  refine ⟨h.1.filter _, fun x hx => ?_, fun k hk hs0 => ?_⟩
  · obtain ⟨h1, h2⟩ := List.mem_filter.1 hx
    obtain ⟨h3, h4⟩ := h.2.1 x h1
    exact ⟨h3, by show (F x.f0).filter q = _; rw [h4]; simp [Option.filter, h2]⟩
  · have hs : ((F k).filter q).isSome = true := hs0
    cases hF : F k with
    | none => rw [hF] at hs; cases hs
    | some y =>
      have hs' := hs
      rw [hF] at hs'
      have hq : q y = true := by
        cases hqy : q y
        · simp [Option.filter, hqy] at hs'
        · rfl
      obtain ⟨x, hx, e⟩ := h.2.2 k hk (by rw [hF]; rfl)
      have := (h.2.1 x hx).2
      rw [e, hF] at this
      cases this
      exact ⟨y, List.mem_filter.2 ⟨hx, hq⟩, e⟩
set_option maxHeartbeats 2000000 in
theorem step4 (x : Ver) (a : Nm) (E : Int) (A2 : Option Addr) (c2 : Nat) (W : World) (p m : Nat) (R : Nat → Prop) (F : Nm → Option Ver) (P P0 : Nat → Prop) (A : Option Addr) (c : Nat) (r : List Ver) (h : St W p m R F P (.slice A r.length c) r) (hn : r.length + 2 < 2932031007402) :
    Calls Try.prog 32 #[.pointer (some ⟨p, 0, none⟩), .slice A r.length c, .agg #[.int .i64 4, .int .u64 x.f0.f0, .int .u32 x.f0.f1, .slice A2 x.f1.length c2, .int .u64 x.f2, .int .u64 a.f0, .int .u32 a.f1, .int .u64 E]] W (Stepped W p m R P P0 r.length) := by
  have hrw := h.row
  have hB0 := below_alloc (Below.refl W.heap.size W) (.cells #[.int .i64 4, .int .u64 x.f0.f0, .int .u32 x.f0.f1, .slice A2 x.f1.length c2, .int .u64 x.f2, .int .u64 a.f0, .int .u32 a.f1, .int .u64 E] 66)
  have hx0 := blk_new W (.cells #[.int .i64 4, .int .u64 x.f0.f0, .int .u32 x.f0.f1, .slice A2 x.f1.length c2, .int .u64 x.f2, .int .u64 a.f0, .int .u32 a.f1, .int .u64 E] 66)
  go_enter Try.func32, Try.ntmps32
  go_wp2_with fail
  generalize W.alloc (.cells #[.int .i64 4, .int .u64 x.f0.f0, .int .u32 x.f0.f1, .slice A2 x.f1.length c2, .int .u64 x.f2, .int .u64 a.f0, .int .u32 a.f1, .int .u64 E] 66) = W0 at hB0 hx0 ⊢
  have hy7 := blk_cell hx0 7
  refine (purge_any W0 p m r.length R F E (h.wo.below hB0)).mono ?_
  rintro e w2 ⟨k1, k2, rfl, hk1, hk2, hmany1, hmany2, hWo2, hg2⟩
  have hT2 : IsTold (purgeF F E) (r.filter (stays E)) := told_filter h.told (stays E)
  obtain rfl := many_told h.told hmany1
  obtain rfl := many_told hT2 hmany2
  have hg := grown_of hB0 hg2
  have hV2 := Kd.V_step h.ref (fun k hk hlt => hg.block k hlt (by intro e; injection e with e; exact h.pm (e ▸ hk)))
  have hx2 := blk_grown hx0 hg2 (by have := h.wo.ml; intro e; injection e with e; omega)
  have y7 := blk_cell hx2 7
  have hzg := hg.size
  have hfl : (r.filter (stays E)).length ≤ r.length := List.length_filter_le _ _
  have hpf := purge_f r (by omega) E
  have hod : ∀ x ∈ r.filter (stays E), x.f2 = 0 ∨ x.f0.f0 < x.f2 := fun x hx => h.od x (List.mem_filter.1 hx).1
  generalize r.filter (stays E) = s at hT2 hfl hpf hmany2 hk2 hod ⊢
  go_wp2_with fail
  refine (hayloftref10_Purge.calls (r.length + 1) P A c r E s w2 hV2 hpf).mono ?_
  rintro e w3 ⟨v3, rfl, hN3, hB3⟩
  obtain ⟨A6, c6, rfl⟩ := Kd.N_slice hN3
  have hgF := grown_below hg hB3
  go_wp2_with fail
  refine bodyPost_ret (v := .tuple #[.pointer (some ⟨p, 0, none⟩), .slice A6 s.length c6, .bool true]) (by simp [results, Try.results32, go_sem]; unfold wrap64; omega) rfl ?_
  refine ⟨p, m, R, _, (fun k => (P k ∨ w2.heap.size ≤ k) ∧ k < w3.heap.size), _, s, rfl, ⟨wo_fit (hWo2.below hB3) hT2, hT2, Kd.N_V (Kd.N_bound hN3), fun k hk => hk.2, fun hk => ?_, fun hk => ?_, hod⟩, hgF, .inl ⟨rfl, rfl⟩, fun k hk => .inl hk, fun k hk => hk.1.imp id (fun h => .inr (by omega)), by omega⟩
  · rcases hk.1 with z | z
    · exact h.pm z
    · have := h.wo.ml; omega
  · rcases hk.1 with z | z
    · exact h.pp z
    · have := h.wo.pl; omega
end Go.Proofs.Ytacacigpendneaa.QV
/- hayloftlaw10.step: all are taken. -/
namespace Go.Proofs.Ytacacigpendneaa.QV
open Go.RowKit Go.Proofs.YtacacigpendneaaW.PrintWords Go.Proofs.Ytacacigpendneaa.Mp Go.Proofs.Ytacacigpendneaa.Seq Go.Shelf
set_option linter.unusedVariables false
set_option linter.unusedSimpArgs false
set_option maxRecDepth 100000
theorem told_nil : IsTold (fun _ => none) [] := ⟨List.Pairwise.nil, fun x hx => (by cases hx), fun k hk h => (by cases h)⟩
set_option maxHeartbeats 2000000 in
theorem step5 (x : Ver) (a : Nm) (E : Int) (A2 : Option Addr) (c2 : Nat) (W : World) (p m : Nat) (R : Nat → Prop) (F : Nm → Option Ver) (P P0 : Nat → Prop) (A : Option Addr) (c : Nat) (r : List Ver) (h : St W p m R F P (.slice A r.length c) r) (hn : r.length + 2 < 2932031007402) :
    Calls Try.prog 32 #[.pointer (some ⟨p, 0, none⟩), .slice A r.length c, .agg #[.int .i64 5, .int .u64 x.f0.f0, .int .u32 x.f0.f1, .slice A2 x.f1.length c2, .int .u64 x.f2, .int .u64 a.f0, .int .u32 a.f1, .int .u64 E]] W (Stepped W p m R P P0 r.length) := by
  have hrw := h.row
  have hB0 := below_alloc (Below.refl W.heap.size W) (.cells #[.int .i64 5, .int .u64 x.f0.f0, .int .u32 x.f0.f1, .slice A2 x.f1.length c2, .int .u64 x.f2, .int .u64 a.f0, .int .u32 a.f1, .int .u64 E] 66)
  have hx0 := blk_new W (.cells #[.int .i64 5, .int .u64 x.f0.f0, .int .u32 x.f0.f1, .slice A2 x.f1.length c2, .int .u64 x.f2, .int .u64 a.f0, .int .u32 a.f1, .int .u64 E] 66)
  go_enter Try.func32, Try.ntmps32
  go_wp2_with fail
  generalize W.alloc (.cells #[.int .i64 5, .int .u64 x.f0.f0, .int .u32 x.f0.f1, .slice A2 x.f1.length c2, .int .u64 x.f2, .int .u64 a.f0, .int .u32 a.f1, .int .u64 E] 66) = W0 at hB0 hx0 ⊢
  refine (take_any W0 p m r.length R F r (h.wo.below hB0) h.told (by omega) (by omega)).mono ?_
  rintro e w2 ⟨v, rfl, hS, hWo2, hg2⟩
  obtain ⟨A5, c5, rfl⟩ := Kd.R_slice (Kd.S_R hS)
  have hg := grown_of hB0 hg2
  have hV2 := Kd.V_step h.ref (fun k hk hlt => hg.block k hlt (by intro e; injection e with e; exact h.pm (e ▸ hk)))
  obtain ⟨_, hVc, hVC⟩ := Kd.V_reads' hV2
  obtain ⟨_, hS3c, hS3C⟩ := Kd.S_reads' hS
  go_wp2_with fail
  refine (same_two r (by omega) (fun y hy => by have := hrw y hy; omega) A5 A c5 c w2 hS3C hS3c hVC hVc).mono ?_
  rintro e w4 ⟨rfl, hB4⟩
  have hWo4 := hWo2.below hB4
  go_wp2_with fail
  refine (len_any w4 p m 0 R _ hWo4).mono ?_
  rintro e w4' ⟨rfl, k, rfl, hkn, hmany⟩
  obtain rfl : k = 0 := by omega
  go_wp2_with fail
  refine bodyPost_ret (v := .tuple #[.pointer (some ⟨p, 0, none⟩), .slice none 0 0, .bool true]) (by simp [results, Try.results32, go_sem]; try rfl) rfl ?_
  have hgF := grown_below hg hB4
  exact ⟨p, m, R, _, P, _, [], rfl, ⟨hWo4, told_nil, Kd.V_nil _ _ _ _ _, fun k hk => Nat.lt_of_lt_of_le (h.pl k hk) hgF.size, h.pm, h.pp, fun x hx => (by cases hx)⟩, hgF, .inl ⟨rfl, rfl⟩, fun k hk => .inl hk, fun k hk => .inl hk, Nat.zero_le _⟩
end Go.Proofs.Ytacacigpendneaa.QV
/- hayloftlaw10.step: all that there is. -/
namespace Go.Proofs.Ytacacigpendneaa.QV
open Go.RowKit Go.Proofs.YtacacigpendneaaW.PrintWords Go.Proofs.Ytacacigpendneaa.Mp Go.Proofs.Ytacacigpendneaa.Seq Go.Shelf
set_option linter.unusedVariables false
set_option linter.unusedSimpArgs false
set_option maxRecDepth 100000
set_option maxHeartbeats 2000000 in
theorem step6 (kd : Int) (x : Ver) (a : Nm) (E : Int) (A2 : Option Addr) (c2 : Nat) (W : World) (p m : Nat) (R : Nat → Prop) (F : Nm → Option Ver) (P P0 : Nat → Prop) (A : Option Addr) (c : Nat) (r : List Ver) (h : St W p m R F P (.slice A r.length c) r) (hn : r.length + 2 < 2932031007402) (d0 : (kd == 0) = false) (d1 : (kd == 1) = false) (d2 : (kd == 2) = false) (d3 : (kd == 3) = false) (d4 : (kd == 4) = false) (d5 : (kd == 5) = false) (d7 : (kd == 7) = false) :
    Calls Try.prog 32 #[.pointer (some ⟨p, 0, none⟩), .slice A r.length c, .agg #[.int .i64 kd, .int .u64 x.f0.f0, .int .u32 x.f0.f1, .slice A2 x.f1.length c2, .int .u64 x.f2, .int .u64 a.f0, .int .u32 a.f1, .int .u64 E]] W (Stepped W p m R P P0 r.length) := by
  have hrw := h.row
  have hB0 := below_alloc (Below.refl W.heap.size W) (.cells #[.int .i64 kd, .int .u64 x.f0.f0, .int .u32 x.f0.f1, .slice A2 x.f1.length c2, .int .u64 x.f2, .int .u64 a.f0, .int .u32 a.f1, .int .u64 E] 66)
  have hx0 := blk_new W (.cells #[.int .i64 kd, .int .u64 x.f0.f0, .int .u32 x.f0.f1, .slice A2 x.f1.length c2, .int .u64 x.f2, .int .u64 a.f0, .int .u32 a.f1, .int .u64 E] 66)
  go_enter Try.func32, Try.ntmps32
  go_wp2_with fail
  generalize W.alloc (.cells #[.int .i64 kd, .int .u64 x.f0.f0, .int .u32 x.f0.f1, .slice A2 x.f1.length c2, .int .u64 x.f2, .int .u64 a.f0, .int .u32 a.f1, .int .u64 E] 66) = W0 at hB0 hx0 ⊢
  obtain ⟨w1, hw1, hB1, hs1, hseq⟩ := all_gives W0 p m r.length R F r (fun _ => False) (h.wo.below hB0) h.told (by omega) (fun _ _ h => h)
  refine (all_any p W0).mono ?_
  rintro e w1' ⟨rfl, rfl⟩
  rw [← hw1]
  clear hw1
  go_wp2_with fail
  refine (gone_any _ _ _ _ w1 w1 (fun args w => by kernel_rfl) hseq (Below.refl _ _) (by omega)).mono ?_
  rintro e w2 ⟨v, rfl, hS, hB2⟩
  obtain ⟨A5, c5, rfl⟩ := Kd.R_slice (Kd.S_R hS)
  have hB01 := btr' hB0 hB1
  have hB02 := btr' hB01 hB2
  have h2 := h.below hB02
  have hz1 := hB01.size
  go_wp2_with fail
  refine (len_any w2 p m r.length R F h2.wo).mono ?_
  rintro e w2' ⟨rfl, k, rfl, hkn, hmany⟩
  obtain rfl := many_told h.told hmany
  obtain ⟨_, hVc, hVC⟩ := Kd.V_reads' h2.ref
  obtain ⟨_, hS3c, hS3C⟩ := Kd.S_reads' hS
  go_wp2_with fail
  refine (same_two r (by omega) (fun y hy => by have := hrw y hy; omega) A5 A c5 c _ hS3C hS3c hVC hVc).mono ?_
  rintro e w4 ⟨rfl, hB4⟩
  have hS4 := Kd.S_below hS hB4
  have hB04 := btr' hB02 hB4
  go_wp2_with fail
  refine (spoilt_any _ A5 c5 r w4 (spIn_S hS4) (by omega)).mono ?_
  rintro e w5 ⟨rfl, hsp⟩
  go_wp2_with fail
  refine bodyPost_ret (v := .tuple #[.pointer (some ⟨p, 0, none⟩), .slice A r.length c, .bool true]) (by simp [results, Try.results32, go_sem]; try rfl) rfl ?_
  have hB45 : Below w1.heap.size w4 w5 := hsp.below (fun i hi => hi.1)
  exact stepped_same h (hB04.trans (hB45.mono hz1)) rfl
end Go.Proofs.Ytacacigpendneaa.QV
/- hayloftlaw10.step: a clone. -/
namespace Go.Proofs.Ytacacigpendneaa.QV
open Go.RowKit Go.Proofs.YtacacigpendneaaW.PrintWords Go.Proofs.Ytacacigpendneaa.Mp Go.Proofs.Ytacacigpendneaa.Seq Go.Shelf
set_option linter.unusedVariables false
set_option linter.unusedSimpArgs false
set_option maxRecDepth 100000
set_option maxHeartbeats 2000000 in
theorem step7 (x : Ver) (a : Nm) (E : Int) (A2 : Option Addr) (c2 : Nat) (W : World) (p m : Nat) (R : Nat → Prop) (F : Nm → Option Ver) (P P0 : Nat → Prop) (A : Option Addr) (c : Nat) (r : List Ver) (h : St W p m R F P (.slice A r.length c) r) (hn : r.length + 2 < 2932031007402) :
    Calls Try.prog 32 #[.pointer (some ⟨p, 0, none⟩), .slice A r.length c, .agg #[.int .i64 7, .int .u64 x.f0.f0, .int .u32 x.f0.f1, .slice A2 x.f1.length c2, .int .u64 x.f2, .int .u64 a.f0, .int .u32 a.f1, .int .u64 E]] W (Stepped W p m R P P0 r.length) := by
  have hrw := h.row
  have hB0 := below_alloc (Below.refl W.heap.size W) (.cells #[.int .i64 7, .int .u64 x.f0.f0, .int .u32 x.f0.f1, .slice A2 x.f1.length c2, .int .u64 x.f2, .int .u64 a.f0, .int .u32 a.f1, .int .u64 E] 66)
  have hx0 := blk_new W (.cells #[.int .i64 7, .int .u64 x.f0.f0, .int .u32 x.f0.f1, .slice A2 x.f1.length c2, .int .u64 x.f2, .int .u64 a.f0, .int .u32 a.f1, .int .u64 E] 66)
  go_enter Try.func32, Try.ntmps32
  go_wp2_with fail
  generalize W.alloc (.cells #[.int .i64 7, .int .u64 x.f0.f0, .int .u32 x.f0.f1, .slice A2 x.f1.length c2, .int .u64 x.f2, .int .u64 a.f0, .int .u32 a.f1, .int .u64 E] 66) = W0 at hB0 hx0 ⊢
  refine (clone_wos W0 p m r.length R F (h.wo.below hB0)).mono ?_
  rintro e w2 ⟨p', m', rfl, hp', hm', hWo2, hB2⟩
  have hB02 := btr' hB0 hB2
  have h2 := h.below hB02
  have hz0 := hB0.size
  go_wp2_with fail
  refine bodyPost_ret (v := .tuple #[.pointer (some ⟨p', 0, none⟩), .slice A r.length c, .bool true]) (by simp [results, Try.results32, go_sem]; try rfl) rfl ?_
  exact ⟨p', m', R, F, P, _, r, rfl, ⟨hWo2, h.told, h2.ref, h2.pl, fun hk => by have := h.pl _ hk; omega, fun hk => by have := h.pl _ hk; omega, h.od⟩, below_grown hB02 m, .inr ⟨by omega, by omega⟩, fun k hk => .inl hk, fun k hk => .inl hk, by omega⟩
end Go.Proofs.Ytacacigpendneaa.QV
/- hayloftlaw10.step, run: every call of a script is answered as the document says. -/
namespace Go.Proofs.Ytacacigpendneaa.QV
open Go.RowKit Go.Proofs.YtacacigpendneaaW.PrintWords Go.Proofs.Ytacacigpendneaa.Mp Go.Proofs.Ytacacigpendneaa.Seq Go.Shelf
set_option linter.unusedVariables false
set_option linter.unusedSimpArgs false
set_option maxRecDepth 100000
theorem step_any (o : OpT) (ho : OpOk o) (A2 : Option Addr) (c2 : Nat) (W : World) (p m : Nat) (R : Nat → Prop) (F : Nm → Option Ver) (P P0 : Nat → Prop) (A : Option Addr) (c : Nat) (r : List Ver) (h : St W p m R F P (.slice A r.length c) r) (hn : r.length + 2 < 2932031007402)
    (hle : o.2.1.f1.length ≤ c2) (hF2 : Kd.F kS W P0 A2 o.2.1.f1.length o.2.1.f1) (hP0 : ∀ k, P0 k → k < W.heap.size) (hPm : ¬ P0 m) (hPp : ¬ P0 p) :
    Calls Try.prog 32 #[.pointer (some ⟨p, 0, none⟩), .slice A r.length c, .agg #[.int .i64 o.1, .int .u64 o.2.1.f0.f0, .int .u32 o.2.1.f0.f1, .slice A2 o.2.1.f1.length c2, .int .u64 o.2.1.f2, .int .u64 o.2.2.1.f0, .int .u32 o.2.2.1.f1, .int .u64 o.2.2.2]] W (Stepped W p m R P P0 r.length) := by
  obtain ⟨kd, x, a, E⟩ := o
  obtain ⟨h1, h2, h3, h4, h5⟩ := ho
  simp only at h1 h2 h3 h4 h5 hle hF2 ⊢
  by_cases k0 : kd = 0
  · subst k0; exact step0 x a E A2 c2 W p m R F P P0 A c r h hn h1 hle hF2 h2 hP0 hPm hPp
  by_cases k1 : kd = 1
  · subst k1; exact step1 x a E A2 c2 W p m R F P P0 A c r h hn h4
  by_cases k2 : kd = 2
  · subst k2; exact step2 x a E A2 c2 W p m R F P P0 A c r h hn h4
  by_cases k3 : kd = 3
  · subst k3; exact step3 x a E A2 c2 W p m R F P P0 A c r h hn
  by_cases k4 : kd = 4
  · subst k4; exact step4 x a E A2 c2 W p m R F P P0 A c r h hn
  by_cases k5 : kd = 5
  · subst k5; exact step5 x a E A2 c2 W p m R F P P0 A c r h hn
  by_cases k7 : kd = 7
  · subst k7; exact step7 x a E A2 c2 W p m R F P P0 A c r h hn
  exact step6 kd x a E A2 c2 W p m R F P P0 A c r h hn (beq_eq_false_iff_ne.2 k0) (beq_eq_false_iff_ne.2 k1) (beq_eq_false_iff_ne.2 k2) (beq_eq_false_iff_ne.2 k3) (beq_eq_false_iff_ne.2 k4) (beq_eq_false_iff_ne.2 k5) (beq_eq_false_iff_ne.2 k7)
abbrev zOp : OpT := (0, z29, z25, 0)
theorem op_get {w : World} {A : Option Addr} {n : Nat} {ops : List OpT} (h : kOp.C w A n ops) (i : Nat) (hi : i < n) : ∃ ad A2 c2, A = some ad ∧ w.cell? (ad.add (i * 8)) = some (.int .i64 (ops.getD i zOp).1) ∧
    w.cell? ⟨(ad.add (i * 8)).block, (ad.add (i * 8)).off + 1, none⟩ = some (.int .u64 (ops.getD i zOp).2.1.f0.f0) ∧ w.cell? ⟨(ad.add (i * 8)).block, (ad.add (i * 8)).off + 2, none⟩ = some (.int .u32 (ops.getD i zOp).2.1.f0.f1) ∧
    w.cell? ⟨(ad.add (i * 8)).block, (ad.add (i * 8)).off + 3, none⟩ = some (.slice A2 (ops.getD i zOp).2.1.f1.length c2) ∧ w.cell? ⟨(ad.add (i * 8)).block, (ad.add (i * 8)).off + 4, none⟩ = some (.int .u64 (ops.getD i zOp).2.1.f2) ∧
    w.cell? ⟨(ad.add (i * 8)).block, (ad.add (i * 8)).off + 5, none⟩ = some (.int .u64 (ops.getD i zOp).2.2.1.f0) ∧ w.cell? ⟨(ad.add (i * 8)).block, (ad.add (i * 8)).off + 6, none⟩ = some (.int .u32 (ops.getD i zOp).2.2.1.f1) ∧
    w.cell? ⟨(ad.add (i * 8)).block, (ad.add (i * 8)).off + 7, none⟩ = some (.int .u64 (ops.getD i zOp).2.2.2) ∧ (ops.getD i zOp).2.1.f1.length ≤ c2 ∧ kS.C w A2 (ops.getD i zOp).2.1.f1.length (ops.getD i zOp).2.1.f1 := by
  obtain ⟨ad, c, e, _, hK, hc0⟩ := Kd.C_get h zOp (i : Int) (by omega) (by omega)
  have hc : ∀ j u, c[j]? = some u → w.cell? (ad.add (i * 8 + j)) = some u := hc0
  rw [Int.toNat_natCast] at hK
  obtain ⟨A2, c2, rfl, l2, g2⟩ := op_open hK
  exact ⟨ad, A2, c2, e, hc 0 _ rfl, by rw [← add_field _ _ 1 (by omega)]; exact hc 1 _ rfl, by rw [← add_field _ _ 2 (by omega)]; exact hc 2 _ rfl, by rw [← add_field _ _ 3 (by omega)]; exact hc 3 _ rfl, by rw [← add_field _ _ 4 (by omega)]; exact hc 4 _ rfl,
    by rw [← add_field _ _ 5 (by omega)]; exact hc 5 _ rfl, by rw [← add_field _ _ 6 (by omega)]; exact hc 6 _ rfl, by rw [← add_field _ _ 7 (by omega)]; exact hc 7 _ rfl, l2, g2⟩
/-- The rows of what came in, in whatever world that keeps it. -/
theorem row_F {w0 W : World} (hb : Below w0.heap.size w0 W) {A : Option Addr} {n : Nat} {xs : List Val} (h : kS.C w0 A n xs) : Kd.F kS W (fun k => k < w0.heap.size) A n xs := fun W' hW =>
  k69_heap.C (fun k hk => (hW k hk (Nat.lt_of_lt_of_le hk hb.size)).trans (hb.block k hk)) h
/-- What a run leaves behind. -/
def Ran (w0 : World) (N : Nat) (e : Ending) (W' : World) : Prop := ∃ p' m' R' F' P' A' c' r', e = .returned (.tuple #[.pointer (some ⟨p', 0, none⟩), .slice A' (List.length r') c', .bool true]) ∧ St W' p' m' R' F' P' (.slice A' r'.length c') r' ∧ Below w0.heap.size w0 W' ∧ w0.heap.size ≤ m' ∧ w0.heap.size ≤ p' ∧ r'.length ≤ N
set_option maxHeartbeats 2000000 in
theorem run_any (w0 : World) (As : Option Addr) (cs : Nat) (ops : List OpT) (hops : kOp.C w0 As ops.length ops) (hcs : ops.length ≤ cs) (hok : ∀ o ∈ ops, OpOk o) (W : World) (hb : Below w0.heap.size w0 W) (p m : Nat) (R : Nat → Prop) (F : Nm → Option Ver) (P : Nat → Prop) (A : Option Addr) (c : Nat) (r : List Ver)
    (h : St W p m R F P (.slice A r.length c) r) (hm : w0.heap.size ≤ m) (hp : w0.heap.size ≤ p) (hn : r.length + ops.length + 3 < 2932031007402) :
    Calls Try.prog 27 #[.pointer (some ⟨p, 0, none⟩), .slice A r.length c, .slice As ops.length cs] W (Ran w0 (r.length + ops.length + 1)) := by
  go_enter Try.func27, Try.ntmps27
  go_wp2_with fail
  go_loopw [0, 1, 14] (fun v0 v1 i wr => ∃ k : Nat, k ≤ ops.length ∧ i = .int .i64 k ∧ ∃ p' m' R' F' P' A' c' r', v0 = .pointer (some ⟨p', 0, none⟩) ∧ v1 = .slice A' (List.length r') c' ∧ St wr p' m' R' F' P' (.slice A' r'.length c') r' ∧ Below w0.heap.size w0 wr ∧ w0.heap.size ≤ m' ∧ w0.heap.size ≤ p' ∧ r'.length ≤ r.length + k)
    (fun _ _ i _ => ops.length - (intOf i).toNat)
  case atStart => exact ⟨0, Nat.zero_le _, rfl, p, m, R, F, P, A, c, r, rfl, rfl, h, hb, hm, hp, Nat.le_refl _⟩
  case round =>
    obtain ⟨k, hk, rfl, p', m', R', F', P', A', c', r', rfl, rfl, h', hb', hm', hp', hr'⟩ := hrel
    by_cases hlt : k < ops.length
    · obtain ⟨ad, A2, c2, rfl, y0, y1, y2, y3, y4, y5, y6, y7, hle, hC⟩ := op_get hops k hlt
      have hmem : ops.getD k zOp ∈ ops := getD_mem _ hlt
      have ho := hok _ hmem
      clear hmem
      generalize ops.getD k zOp = o at *
      replace y0 := pw_cell_below hb' y0
      replace y1 := pw_cell_below hb' y1
      replace y2 := pw_cell_below hb' y2
      replace y3 := pw_cell_below hb' y3
      replace y4 := pw_cell_below hb' y4
      replace y5 := pw_cell_below hb' y5
      replace y6 := pw_cell_below hb' y6
      replace y7 := pw_cell_below hb' y7
      go_wp2_with fail
      have hb2 : Below wr.heap.size wr (wr.alloc (.cells #[.int .i64 o.1, .int .u64 o.2.1.f0.f0, .int .u32 o.2.1.f0.f1, .slice A2 o.2.1.f1.length c2, .int .u64 o.2.1.f2, .int .u64 o.2.2.1.f0, .int .u32 o.2.2.1.f1, .int .u64 o.2.2.2] 66)) := below_alloc (Below.refl _ _) _
      generalize wr.alloc (.cells #[.int .i64 o.1, .int .u64 o.2.1.f0.f0, .int .u32 o.2.1.f0.f1, .slice A2 o.2.1.f1.length c2, .int .u64 o.2.1.f2, .int .u64 o.2.2.1.f0, .int .u32 o.2.2.1.f1, .int .u64 o.2.2.2] 66) = W2 at hb2 ⊢
      have hB2 := hb'.trans (hb2.mono hb'.size)
      have hzs := hB2.size
      refine (step_any o ho A2 c2 W2 p' m' R' F' P' (fun k => k < w0.heap.size) A' c' r' (h'.below hb2) (by omega) hle (row_F hB2 hC) (fun k hk => by omega) (by omega) (by omega)).mono ?_
      rintro e W3 ⟨p3, m3, R3, F3, P3, rv3, r3, rfl, h3, hg3, hpm3, _, _, hl3⟩
      obtain ⟨A3, c3, rfl⟩ := Kd.V_slice h3.ref
      have hB3 : Below w0.heap.size w0 W3 := hB2.grown hg3 hB2.size (fun k e => by cases e; exact hm')
      go_wp2_with fail
      go_roundw
      case rel =>
        refine ⟨k + 1, by omega, by go_num, p3, m3, R3, F3, P3, A3, c3, r3, rfl, rfl, h3, hB3, ?_, ?_, by omega⟩
        · rcases hpm3 with ⟨z1, z2⟩ | ⟨z1, z2⟩ <;> omega
        · rcases hpm3 with ⟨z1, z2⟩ | ⟨z1, z2⟩ <;> omega
      case measure => simp [intOf]; omega
    · obtain rfl : k = ops.length := by omega
      go_wp2_with fail
      have hzs := hb'.size
      refine (step_any (6, ⟨⟨0, 0⟩, [], 0⟩, ⟨0, 0⟩, 0) ⟨⟨by decide, by decide⟩, by decide, by decide, ⟨by decide, by decide⟩, by decide⟩ none 0 wr p' m' R' F' P' (fun _ => False) A' c' r' h' (by omega) (Nat.le_refl _) (fun W' _ => Kd.C_nil _ _) (fun _ h => h.elim) (fun h => h) (fun h => h)).mono ?_
      rintro e W3 ⟨p3, m3, R3, F3, P3, rv3, r3, rfl, h3, hg3, hpm3, _, _, hl3⟩
      obtain ⟨A3, c3, rfl⟩ := Kd.V_slice h3.ref
      have hB3 : Below w0.heap.size w0 W3 := hb'.grown hg3 hb'.size (fun k e => by cases e; exact hm')
      go_wp2_with fail
      refine bodyPost_ret (v := .tuple #[.pointer (some ⟨p3, 0, none⟩), .slice A3 r3.length c3, .bool true]) (by simp [results, Try.results27, go_sem]; try rfl) rfl ?_
      refine ⟨p3, m3, R3, F3, P3, A3, c3, r3, rfl, h3, hB3, ?_, ?_, by omega⟩
      · rcases hpm3 with ⟨z1, z2⟩ | ⟨z1, z2⟩ <;> omega
      · rcases hpm3 with ⟨z1, z2⟩ | ⟨z1, z2⟩ <;> omega
end Go.Proofs.Ytacacigpendneaa.QV
/- WosAll, walked. -/
namespace Go.Proofs.Ytacacigpendneaa.QV
open Go.RowKit Go.Proofs.YtacacigpendneaaW.PrintWords Go.Proofs.Ytacacigpendneaa.Mp Go.Proofs.Ytacacigpendneaa.Seq Go.Shelf
set_option linter.unusedVariables false
set_option linter.unusedSimpArgs false
set_option maxRecDepth 100000
theorem St.first {W : World} {p m : Nat} (h : Wo W p m 0 (fun _ => False) (fun _ => none)) : St W p m (fun _ => False) (fun _ => none) (fun _ => False) (.slice none ([] : List Ver).length 0) [] :=
  ⟨h, told_nil, Kd.V_nil _ _ _ _ _, fun _ h => h.elim, fun h => h, fun h => h, fun x hx => (by cases hx)⟩
end Go.Proofs.Ytacacigpendneaa.QV
/- WosClones, walked. -/
namespace Go.Proofs.Ytacacigpendneaa.QV
open Go.RowKit Go.Proofs.YtacacigpendneaaW.PrintWords Go.Proofs.Ytacacigpendneaa.Mp Go.Proofs.Ytacacigpendneaa.Seq Go.Shelf
set_option linter.unusedVariables false
set_option linter.unusedSimpArgs false
set_option maxRecDepth 100000
/-- What the one has is none of what the other writes. -/
def Off (m p2 m2 : Nat) (R2 P2 : Nat → Prop) : Prop := m ≠ p2 ∧ m ≠ m2 ∧ ¬ R2 m ∧ ¬ P2 m
/-- A step at the one is not seen at the other. -/
theorem off_step {W W' : World} {b p m p' m' p2 m2 : Nat} {R P R' P' R2 P2 : Nat → Prop} {F2 : Nm → Option Ver} {rv2 : Value} {s : List Ver} (h2 : St W p2 m2 R2 F2 P2 rv2 s) (h12 : Off m p2 m2 R2 P2) (h21 : Off m2 p m R P) (hg : W.grownBy W' (some m)) (hb : b ≤ m2) (hml : m < W.heap.size)
    (hpm : (p' = p ∧ m' = m) ∨ (W.heap.size ≤ p' ∧ W.heap.size ≤ m')) (hR : ∀ k, R' k → R k ∨ W.heap.size ≤ k) (hP : ∀ k, P' k → P k ∨ k < b ∨ W.heap.size ≤ k) : St W' p2 m2 R2 F2 P2 rv2 s ∧ Off m' p2 m2 R2 P2 ∧ Off m2 p' m' R' P' := by
  obtain ⟨a1, a2, a3, a4⟩ := h12
  obtain ⟨b1, b2, b3, b4⟩ := h21
  have hm2 := h2.wo.ml
  have hp2 := h2.wo.pl
  refine ⟨h2.kept hg a1 a2 a3 a4, ⟨?_, ?_, ?_, ?_⟩, ⟨?_, ?_, ?_, ?_⟩⟩
  · rcases hpm with ⟨z1, z2⟩ | ⟨z1, z2⟩
    · rw [z2]; exact a1
    · omega
  · rcases hpm with ⟨z1, z2⟩ | ⟨z1, z2⟩
    · rw [z2]; exact a2
    · omega
  · rcases hpm with ⟨z1, z2⟩ | ⟨z1, z2⟩
    · rw [z2]; exact a3
    · intro h; have := h2.wo.rl _ h; omega
  · rcases hpm with ⟨z1, z2⟩ | ⟨z1, z2⟩
    · rw [z2]; exact a4
    · intro h; have := h2.pl _ h; omega
  · rcases hpm with ⟨z1, z2⟩ | ⟨z1, z2⟩
    · rw [z1]; exact b1
    · omega
  · rcases hpm with ⟨z1, z2⟩ | ⟨z1, z2⟩
    · rw [z2]; exact b2
    · omega
  · intro h
    rcases hR _ h with z | z
    · exact b3 z
    · omega
  · intro h
    rcases hP _ h with z | z | z
    · exact b4 z
    · omega
    · omega
set_option maxHeartbeats 4000000 in
theorem walkClones (A1 A2 A3 : Option Addr) (c1 c2 c3 : Nat) (x1 x2 x3 : List OpT) (w : World) (hC1 : kOp.C w A1 x1.length x1) (hl1 : x1.length ≤ c1) (hC2 : kOp.C w A2 x2.length x2) (hl2 : x2.length ≤ c2) (hC3 : kOp.C w A3 x3.length x3) (hl3 : x3.length ≤ c3)
    (ok1 : ∀ o ∈ x1, OpOk o) (ok2 : ∀ o ∈ x2, OpOk o) (ok3 : ∀ o ∈ x3, OpOk o) (hn : x1.length + x2.length + x3.length ≤ 1048576) :
    Calls Try.prog 9 #[.agg #[.slice A1 x1.length c1, .slice A2 x2.length c2, .slice A3 x3.length c3]] w fun e w' => e = .returned (.bool true) ∧ Below w.heap.size w w' := by
  have hBw := below_alloc (Below.refl w.heap.size w) (.cells #[.slice A1 x1.length c1, .slice A2 x2.length c2, .slice A3 x3.length c3] 62)
  have hxw := blk_new w (.cells #[.slice A1 x1.length c1, .slice A2 x2.length c2, .slice A3 x3.length c3] 62)
  have hsw : (w.alloc (.cells #[.slice A1 x1.length c1, .slice A2 x2.length c2, .slice A3 x3.length c3] 62)).heap.size = w.heap.size + 1 := World.size_alloc ..
  go_enter Try.func9, Try.ntmps9
  go_wp2_with fail
  generalize w.alloc (.cells #[.slice A1 x1.length c1, .slice A2 x2.length c2, .slice A3 x3.length c3] 62) = w0 at hBw hxw hsw ⊢
  replace hC1 := Kd.C_below hC1 hBw
  replace hC2 := Kd.C_below hC2 hBw
  replace hC3 := Kd.C_below hC3 hBw
  refine (begun_any w0).mono ?_
  rintro e w1 ⟨p0, m0, rfl, hWo, ⟨hm0, hp0⟩, hB1⟩
  have hx1 := blk_below hxw hB1
  have y0 := blk_cell hx1 0
  go_wp2_with fail
  refine (run_any w0 A1 c1 x1 hC1 hl1 ok1 w1 hB1 p0 m0 _ _ _ none 0 [] (St.first hWo) hm0 hp0 (by simp; omega)).mono ?_
  rintro e w2 ⟨p, m, R, F, P, A, c, r, rfl, h, hB2, hm, hp, hrl⟩
  have hrl : r.length ≤ x1.length + 1 := by simpa using hrl
  go_wp2_with fail
  refine (clone_wos w2 p m r.length R F h.wo).mono ?_
  rintro e w3 ⟨p2, m2, rfl, hp2, hm2, hWo3, hB3⟩
  have h3 := h.below hB3
  have hz2 := hB2.size
  have hz3 := hB3.size
  have hml := h.wo.ml
  have hpl := h.wo.pl
  have h3b : St w3 p2 m2 R F P (.slice A r.length c) r := ⟨hWo3, h.told, h3.ref, h3.pl, fun hk => by have := h.pl _ hk; omega, fun hk => by have := h.pl _ hk; omega, h.od⟩
  have o12 : Off m p2 m2 R P := ⟨by omega, by omega, h.wo.rm, h.pm⟩
  have o21 : Off m2 p m R P := ⟨by omega, by omega, fun hk => by have := h.wo.rl _ hk; omega, fun hk => by have := h.pl _ hk; omega⟩
  have hB03 : Below w0.heap.size w0 w3 := hB2.trans (hB3.mono hz2)
  go_wp2_with fail
  clear h3
  go_loopw [3, 5, 6, 7, 8] (fun v3 v5 v6 v7 v8 wr => ∃ k : Nat, k ≤ 1048576 ∧ v8 = .int .i64 k ∧ ∃ p m R F P A c r p2 m2 R2 F2 P2 A2 c2 s, v3 = .pointer (some ⟨p, 0, none⟩) ∧ v5 = .slice A (List.length r) c ∧ v6 = .pointer (some ⟨p2, 0, none⟩) ∧ v7 = .slice A2 (List.length s) c2 ∧
      St wr p m R F P (.slice A r.length c) r ∧ St wr p2 m2 R2 F2 P2 (.slice A2 s.length c2) s ∧ Off m p2 m2 R2 P2 ∧ Off m2 p m R P ∧ Below w0.heap.size w0 wr ∧ w0.heap.size ≤ m ∧ w0.heap.size ≤ p ∧ w0.heap.size ≤ m2 ∧ w0.heap.size ≤ p2 ∧ r.length ≤ x1.length + 1 + k ∧ s.length ≤ x1.length + 1 + k)
    (fun _ _ _ _ v8 _ => x2.length + x3.length - (intOf v8).toNat)
  case atStart => exact ⟨0, by omega, rfl, p, m, R, F, P, A, c, r, p2, m2, R, F, P, A, c, r, rfl, rfl, rfl, rfl, St.below h hB3, h3b, o12, o21, hB03, hm, hp, by omega, by omega, by omega, by omega⟩
  case round =>
    clear h h3b o12 o21 hB03 hm hp hml hpl hWo3 hB3 hB2 hrl hz2 hz3 hp2 hm2 hWo
    obtain ⟨k, hk, rfl, p, m, R, F, P, A, c, r, p2, m2, R2, F2, P2, B, d, s, rfl, rfl, rfl, rfl, h, g, o12, o21, hB, hm, hp, hm2, hp2, hr, hs⟩ := hrel
    have hzB := hB.size
    have hxr := blk_below hxw hB
    have y1 := blk_cell hxr 1
    have y2 := blk_cell hxr 2
    have z1 : ∀ V : World, Below w0.heap.size w0 V → V.cell? ⟨w.heap.size, 1, none⟩ = some (.slice A2 x2.length c2) ∧ V.cell? ⟨w.heap.size, 2, none⟩ = some (.slice A3 x3.length c3) := fun V hV => ⟨blk_cell (blk_below hxw hV) 1, blk_cell (blk_below hxw hV) 2⟩
    have Z1 := Lib.hid z1
    clear z1
    by_cases lt1 : k < x2.length
    · have d1 : decide (k < x2.length) = true := decide_eq_true lt1
      have d1' : decide ((k : Int) < (x2.length : Int)) = true := decide_eq_true (by omega)
      obtain ⟨ad, B2, d2, rfl, q0, q1, q2, q3, q4, q5, q6, q7, hle, hC⟩ := op_get hC2 k lt1
      have hmem : x2.getD k zOp ∈ x2 := getD_mem _ lt1
      have ho := ok2 _ hmem
      clear hmem
      generalize x2.getD k zOp = o at *
      replace q0 := pw_cell_below hB q0
      replace q1 := pw_cell_below hB q1
      replace q2 := pw_cell_below hB q2
      replace q3 := pw_cell_below hB q3
      replace q4 := pw_cell_below hB q4
      replace q5 := pw_cell_below hB q5
      replace q6 := pw_cell_below hB q6
      replace q7 := pw_cell_below hB q7
      go_wp2_with fail
      refine (step_any o ho B2 d2 wr p m R F P (fun j => j < w0.heap.size) A c r h (by omega) hle (row_F hB hC) (fun j hj => by omega) (by omega) (by omega)).mono ?_
      rintro e W3 ⟨p', m', R', F', P', rv', r', rfl, h', hg1, hpm, hR', hP', hl'⟩
      obtain ⟨A', c', rfl⟩ := Kd.V_slice h'.ref
      obtain ⟨g', o12', o21'⟩ := off_step g o12 o21 hg1 hm2 h.wo.ml hpm hR' hP'
      have hB3 : Below w0.heap.size w0 W3 := hB.grown hg1 hB.size (fun j e => by cases e; exact hm)
      have hm3 : w0.heap.size ≤ m' := by rcases hpm with ⟨z1, z2⟩ | ⟨z1, z2⟩ <;> omega
      have hp3 : w0.heap.size ≤ p' := by rcases hpm with ⟨z1, z2⟩ | ⟨z1, z2⟩ <;> omega
      clear q0 q1 q2 q3 q4 q5 q6 q7 y1 y2 hpm hR' hP' hg1
      obtain ⟨y1, y2⟩ := Z1.out W3 hB3
      by_cases lt2 : k < x3.length
      · have d2' : decide ((k : Int) < (x3.length : Int)) = true := decide_eq_true (by omega)
        obtain ⟨ae, C2, e2, rfl, q0, q1, q2, q3, q4, q5, q6, q7, hle2, hCC⟩ := op_get hC3 k lt2
        have hmem : x3.getD k zOp ∈ x3 := getD_mem _ lt2
        have ho2 := ok3 _ hmem
        clear hmem
        generalize x3.getD k zOp = o2 at *
        replace q0 := pw_cell_below hB3 q0
        replace q1 := pw_cell_below hB3 q1
        replace q2 := pw_cell_below hB3 q2
        replace q3 := pw_cell_below hB3 q3
        replace q4 := pw_cell_below hB3 q4
        replace q5 := pw_cell_below hB3 q5
        replace q6 := pw_cell_below hB3 q6
        replace q7 := pw_cell_below hB3 q7
        go_wp2_with fail
        have hzz := (hB3).size
        refine (step_any o2 ho2 C2 e2 W3 p2 m2 R2 F2 P2 (fun j => j < w0.heap.size) B d s g' (by omega) hle2 (row_F hB3 hCC) (fun j hj => by omega) (by omega) (by omega)).mono ?_
        rintro e W4 ⟨p4, m4, R4, F4, P4, rv4, s4, rfl, g4, hg2, hpm4, hR4, hP4, hl4⟩
        obtain ⟨B4, d4, rfl⟩ := Kd.V_slice g4.ref
        obtain ⟨h4, o21'', o12''⟩ := off_step h' o21' o12' hg2 (by omega) (g').wo.ml hpm4 hR4 hP4
        have hB4 : Below w0.heap.size w0 W4 := (hB3).grown hg2 (hB3).size (fun j e => by cases e; exact hm2)
        have hm4 : w0.heap.size ≤ m4 := by rcases hpm4 with ⟨z1, z2⟩ | ⟨z1, z2⟩ <;> omega
        have hp4 : w0.heap.size ≤ p4 := by rcases hpm4 with ⟨z1, z2⟩ | ⟨z1, z2⟩ <;> omega
        clear q0 q1 q2 q3 q4 q5 q6 q7 y1 y2 hpm4 hR4 hP4 hg2
        go_wp2_with fail
        go_roundw
        case rel => exact ⟨k + 1, by omega, by go_num, p', m', R', F', P', A', c', r', p4, m4, R4, F4, P4, B4, d4, s4, rfl, rfl, rfl, rfl, h4, g4, o12'', o21'', hB4, by omega, by omega, hm4, hp4, by omega, by omega⟩
        case measure => simp [intOf]; omega
      · have d2' : decide ((k : Int) < (x3.length : Int)) = false := decide_eq_false (by omega)
        go_wp2_with fail
        go_roundw
        case rel => exact ⟨k + 1, by omega, by go_num, p', m', R', F', P', A', c', r', p2, m2, R2, F2, P2, B, d, s, rfl, rfl, rfl, rfl, h', g', o12', o21', hB3, hm3, hp3, hm2, hp2, by omega, by omega⟩
        case measure => simp [intOf]; omega
    · have d1' : decide ((k : Int) < (x2.length : Int)) = false := decide_eq_false (by omega)
      by_cases lt2 : k < x3.length
      · have d2' : decide ((k : Int) < (x3.length : Int)) = true := decide_eq_true (by omega)
        obtain ⟨ae, C2, e2, rfl, q0, q1, q2, q3, q4, q5, q6, q7, hle2, hCC⟩ := op_get hC3 k lt2
        have hmem : x3.getD k zOp ∈ x3 := getD_mem _ lt2
        have ho2 := ok3 _ hmem
        clear hmem
        generalize x3.getD k zOp = o2 at *
        replace q0 := pw_cell_below hB q0
        replace q1 := pw_cell_below hB q1
        replace q2 := pw_cell_below hB q2
        replace q3 := pw_cell_below hB q3
        replace q4 := pw_cell_below hB q4
        replace q5 := pw_cell_below hB q5
        replace q6 := pw_cell_below hB q6
        replace q7 := pw_cell_below hB q7
        go_wp2_with fail
        have hzz := (hB).size
        refine (step_any o2 ho2 C2 e2 wr p2 m2 R2 F2 P2 (fun j => j < w0.heap.size) B d s g (by omega) hle2 (row_F hB hCC) (fun j hj => by omega) (by omega) (by omega)).mono ?_
        rintro e W4 ⟨p4, m4, R4, F4, P4, rv4, s4, rfl, g4, hg2, hpm4, hR4, hP4, hl4⟩
        obtain ⟨B4, d4, rfl⟩ := Kd.V_slice g4.ref
        obtain ⟨h4, o21'', o12''⟩ := off_step h o21 o12 hg2 (by omega) (g).wo.ml hpm4 hR4 hP4
        have hB4 : Below w0.heap.size w0 W4 := (hB).grown hg2 (hB).size (fun j e => by cases e; exact hm2)
        have hm4 : w0.heap.size ≤ m4 := by rcases hpm4 with ⟨z1, z2⟩ | ⟨z1, z2⟩ <;> omega
        have hp4 : w0.heap.size ≤ p4 := by rcases hpm4 with ⟨z1, z2⟩ | ⟨z1, z2⟩ <;> omega
        clear q0 q1 q2 q3 q4 q5 q6 q7 y1 y2 hpm4 hR4 hP4 hg2
        go_wp2_with fail
        go_roundw
        case rel => exact ⟨k + 1, by omega, by go_num, p, m, R, F, P, A, c, r, p4, m4, R4, F4, P4, B4, d4, s4, rfl, rfl, rfl, rfl, h4, g4, o12'', o21'', hB4, by omega, by omega, hm4, hp4, by omega, by omega⟩
        case measure => simp [intOf]; omega
      · have d2' : decide ((k : Int) < (x3.length : Int)) = false := decide_eq_false (by omega)
        go_wp2_with fail
        refine (step_any (6, ⟨⟨0, 0⟩, [], 0⟩, ⟨0, 0⟩, 0) ⟨⟨by decide, by decide⟩, by decide, by decide, ⟨by decide, by decide⟩, by decide⟩ none 0 wr p m R F P (fun j => j < w0.heap.size) A c r h (by omega) (Nat.le_refl _) (fun W' _ => Kd.C_nil _ _) (fun j hj => by omega) (by omega) (by omega)).mono ?_
        rintro e W3 ⟨p', m', R', F', P', rv', r', rfl, h', hg1, hpm, hR', hP', hl'⟩
        obtain ⟨A', c', rfl⟩ := Kd.V_slice h'.ref
        obtain ⟨g', o12', o21'⟩ := off_step g o12 o21 hg1 hm2 h.wo.ml hpm hR' hP'
        have hB3 : Below w0.heap.size w0 W3 := hB.grown hg1 hB.size (fun j e => by cases e; exact hm)
        have hzz := hB3.size
        go_wp2_with fail
        refine (step_any (6, ⟨⟨0, 0⟩, [], 0⟩, ⟨0, 0⟩, 0) ⟨⟨by decide, by decide⟩, by decide, by decide, ⟨by decide, by decide⟩, by decide⟩ none 0 W3 p2 m2 R2 F2 P2 (fun j => j < w0.heap.size) B d s g' (by omega) (Nat.le_refl _) (fun W' _ => Kd.C_nil _ _) (fun j hj => by omega) (by omega) (by omega)).mono ?_
        rintro e W4 ⟨p4, m4, R4, F4, P4, rv4, s4, rfl, g4, hg2, hpm4, hR4, hP4, hl4⟩
        obtain ⟨B4, d4, rfl⟩ := Kd.V_slice g4.ref
        have hB4 : Below w0.heap.size w0 W4 := hB3.grown hg2 hB3.size (fun j e => by cases e; exact hm2)
        go_wp2_with fail
        go_ret
        exact ⟨rfl, btr' hBw hB4⟩
end Go.Proofs.Ytacacigpendneaa.QV
