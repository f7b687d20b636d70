/- The parts WStep4, WStep5, WStep6, WStep7, WRun, LWAll, LWPurges, LWTakes of this proof, one behind the other. -/
import Derived.Test.YtacacigpendneaaZ3
/- hayloftlaw10.step: a purge. -/
namespace Go.Proofs.Ytacacigpendneaa.QV
open Go.RowKit Go.Proofs.YtacacigpendneaaW.PrintWords Go.Proofs.Ytacacigpendneaa.Mp Go.Proofs.Ytacacigpendneaa.Seq Go.Shelf
set_option linter.unusedVariables false
set_option linter.unusedSimpArgs false
set_option maxRecDepth 100000
def stays (E : Int) (x : Ver) : Bool := !(x.f2 != 0 && decide (x.f2 ≤ E))
theorem stays_or (E : Int) (x : Ver) : stays E x = true ↔ (x.f2 = 0 ∨ x.f2 > E) := by
  unfold stays
  by_cases h : x.f2 = 0
  · simp [h]
  · have : (x.f2 != 0) = true := bne_iff_ne.2 h
    rw [this, Bool.true_and, Bool.not_eq_true', decide_eq_false_iff_not]
    omega
theorem filter_take (l : List Ver) (q : Ver → Bool) (k : Nat) (h : k < l.length) : (l.take (k + 1)).filter q = if q l[k] = true then (l.take k).filter q ++ [l[k]] else (l.take k).filter q := by
  rw [List.take_succ_eq_append_getElem h, List.filter_append, List.filter_cons]
  split <;> simp
theorem purge_l0 (l : List Ver) (hl : l.length < 2932031007402) (E : Int) : ∀ (n i : Nat), i + n = l.length → hayloftref10_Purge.l0 (n + 1) l E ((l.take i).filter (stays E)) i = some (l.filter (stays E)) := by
  intro n
  induction n with
  | zero =>
    intro i hi
    rw [Nat.add_zero] at hi
    subst hi
    rw [hayloftref10_Purge.l0, if_neg (by omega), List.take_length]
  | succ n ih =>
    intro i hi
    have hil : i < l.length := by omega
    have hw : wrap64 ((i : Int) + 1) = ((i + 1 : Nat) : Int) := by rw [wrap_succ i (by omega)]; rfl
    have hg : rd_T29 l (i : Int) = l[i] := by rw [rdVer, List.getD_eq_getElem?_getD, List.getElem?_eq_getElem hil]; rfl
    have hlen : ((l.take i).filter (stays E)).length < 2932031007402 := Nat.lt_of_le_of_lt (List.length_filter_le _ _) (by rw [List.length_take]; omega)
    have hft := filter_take l (stays E) i hil
    have h1 := ih (i + 1) (by omega)
    have hso := stays_or E l[i]
    rw [hayloftref10_Purge.l0, if_pos (by omega), if_pos (Int.natCast_nonneg i), hw, hg, ver_eta]
    by_cases h0 : l[i].f2 = 0
    · rw [if_pos h0, if_pos hlen]
      rw [hft, if_pos (hso.2 (.inl h0))] at h1
      exact h1
    · rw [if_neg h0]
      by_cases h2 : l[i].f2 > E
      · rw [if_pos h2, if_pos hlen]
        rw [hft, if_pos (hso.2 (.inr h2))] at h1
        exact h1
      · rw [if_neg h2]
        rw [hft, if_neg (fun hs => by rcases hso.1 hs with z | z; exact h0 z; exact h2 z)] at h1
        exact h1
theorem purge_f (l : List Ver) (hl : l.length < 2932031007402) (E : Int) : hayloftref10_Purge.f (l.length + 1) l E = some (l.filter (stays E)) := by
  have h := purge_l0 l hl E l.length 0 (by omega)
  rw [List.take_zero] at h
  exact h
theorem told_filter {F : Nm → Option Ver} {L : List Ver} (h : IsTold F L) (q : Ver → Bool) : IsTold (fun k => (F k).filter q) (L.filter q) := by
  refine ⟨h.1.filter _, fun x hx => ?_, fun k hk hs0 => ?_⟩
  · obtain ⟨h1, h2⟩ := List.mem_filter.1 hx
    obtain ⟨h3, h4⟩ := h.2.1 x h1
    exact ⟨h3, by show (F x.f0).filter q = _; rw [h4]; simp [Option.filter, h2]⟩
  · have hs : ((F k).filter q).isSome = true := hs0
    cases hF : F k with
    | none => rw [hF] at hs; cases hs
    | some y =>
      have hs' := hs
      rw [hF] at hs'
      have hq : q y = true := by
        cases hqy : q y
        · simp [Option.filter, hqy] at hs'
        · rfl
      obtain ⟨x, hx, e⟩ := h.2.2 k hk (by rw [hF]; rfl)
      have := (h.2.1 x hx).2
      rw [e, hF] at this
      cases this
      exact ⟨y, List.mem_filter.2 ⟨hx, hq⟩, e⟩
set_option maxHeartbeats 2000000 in
theorem step4 (x : Ver) (a : Nm) (E : Int) (A2 : Option Addr) (c2 : Nat) (W : World) (p m : Nat) (R : Nat → Prop) (F : Nm → Option Ver) (P P0 : Nat → Prop) (A : Option Addr) (c : Nat) (r : List Ver) (h : St W p m R F P (.slice A r.length c) r) (hn : r.length + 2 < 2932031007402) :
    Calls Try.prog 32 #[.pointer (some ⟨p, 0, none⟩), .slice A r.length c, .agg #[.int .i64 4, .int .u64 x.f0.f0, .int .u32 x.f0.f1, .slice A2 x.f1.length c2, .int .u64 x.f2, .int .u64 a.f0, .int .u32 a.f1, .int .u64 E]] W (Stepped W p m R P P0 r.length) := by
  have hrw := h.row
  have hB0 := below_alloc (Below.refl W.heap.size W) (.cells #[.int .i64 4, .int .u64 x.f0.f0, .int .u32 x.f0.f1, .slice A2 x.f1.length c2, .int .u64 x.f2, .int .u64 a.f0, .int .u32 a.f1, .int .u64 E] 66)
  have hx0 := blk_new W (.cells #[.int .i64 4, .int .u64 x.f0.f0, .int .u32 x.f0.f1, .slice A2 x.f1.length c2, .int .u64 x.f2, .int .u64 a.f0, .int .u32 a.f1, .int .u64 E] 66)
  go_enter Try.func32, Try.ntmps32
  go_wp2_with fail
  generalize W.alloc (.cells #[.int .i64 4, .int .u64 x.f0.f0, .int .u32 x.f0.f1, .slice A2 x.f1.length c2, .int .u64 x.f2, .int .u64 a.f0, .int .u32 a.f1, .int .u64 E] 66) = W0 at hB0 hx0 ⊢
  have hy7 := blk_cell hx0 7
  refine (purge_any W0 p m r.length R F E (h.wo.below hB0)).mono ?_
  rintro e w2 ⟨k1, k2, rfl, hk1, hk2, hmany1, hmany2, hWo2, hg2⟩
  have hT2 : IsTold (purgeF F E) (r.filter (stays E)) := told_filter h.told (stays E)
  obtain rfl := many_told h.told hmany1
  obtain rfl := many_told hT2 hmany2
  have hg := grown_of hB0 hg2
  have hV2 := Kd.V_step h.ref (fun k hk hlt => hg.block k hlt (by intro e; injection e with e; exact h.pm (e ▸ hk)))
  have hx2 := blk_grown hx0 hg2 (by have := h.wo.ml; intro e; injection e with e; omega)
  have y7 := blk_cell hx2 7
  have hzg := hg.size
  have hfl : (r.filter (stays E)).length ≤ r.length := List.length_filter_le _ _
  have hpf := purge_f r (by omega) E
  have hod : ∀ x ∈ r.filter (stays E), x.f2 = 0 ∨ x.f0.f0 < x.f2 := fun x hx => h.od x (List.mem_filter.1 hx).1
  generalize r.filter (stays E) = s at hT2 hfl hpf hmany2 hk2 hod ⊢
  go_wp2_with fail
  refine (hayloftref10_Purge.calls (r.length + 1) P A c r E s w2 hV2 hpf).mono ?_
  rintro e w3 ⟨v3, rfl, hN3, hB3⟩
  obtain ⟨A6, c6, rfl⟩ := Kd.N_slice hN3
  have hgF := grown_below hg hB3
  go_wp2_with fail
  refine bodyPost_ret (v := .tuple #[.pointer (some ⟨p, 0, none⟩), .slice A6 s.length c6, .bool true]) (by simp [results, Try.results32, go_sem]; unfold wrap64; omega) rfl ?_
  refine ⟨p, m, R, _, (fun k => (P k ∨ w2.heap.size ≤ k) ∧ k < w3.heap.size), _, s, rfl, ⟨wo_fit (hWo2.below hB3) hT2, hT2, Kd.N_V (Kd.N_bound hN3), fun k hk => hk.2, fun hk => ?_, fun hk => ?_, hod⟩, hgF, .inl ⟨rfl, rfl⟩, fun k hk => .inl hk, fun k hk => hk.1.imp id (fun h => .inr (by omega)), by omega⟩
  · rcases hk.1 with z | z
    · exact h.pm z
    · have := h.wo.ml; omega
  · rcases hk.1 with z | z
    · exact h.pp z
    · have := h.wo.pl; omega
end Go.Proofs.Ytacacigpendneaa.QV
/- hayloftlaw10.step: all are taken. -/
namespace Go.Proofs.Ytacacigpendneaa.QV
open Go.RowKit Go.Proofs.YtacacigpendneaaW.PrintWords Go.Proofs.Ytacacigpendneaa.Mp Go.Proofs.Ytacacigpendneaa.Seq Go.Shelf
set_option linter.unusedVariables false
set_option linter.unusedSimpArgs false
set_option maxRecDepth 100000
theorem told_nil : IsTold (fun _ => none) [] := ⟨List.Pairwise.nil, fun x hx => (by cases hx), fun k hk h => (by cases h)⟩
set_option maxHeartbeats 2000000 in
theorem step5 (x : Ver) (a : Nm) (E : Int) (A2 : Option Addr) (c2 : Nat) (W : World) (p m : Nat) (R : Nat → Prop) (F : Nm → Option Ver) (P P0 : Nat → Prop) (A : Option Addr) (c : Nat) (r : List Ver) (h : St W p m R F P (.slice A r.length c) r) (hn : r.length + 2 < 2932031007402) :
    Calls Try.prog 32 #[.pointer (some ⟨p, 0, none⟩), .slice A r.length c, .agg #[.int .i64 5, .int .u64 x.f0.f0, .int .u32 x.f0.f1, .slice A2 x.f1.length c2, .int .u64 x.f2, .int .u64 a.f0, .int .u32 a.f1, .int .u64 E]] W (Stepped W p m R P P0 r.length) := by
  have hrw := h.row
  have hB0 := below_alloc (Below.refl W.heap.size W) (.cells #[.int .i64 5, .int .u64 x.f0.f0, .int .u32 x.f0.f1, .slice A2 x.f1.length c2, .int .u64 x.f2, .int .u64 a.f0, .int .u32 a.f1, .int .u64 E] 66)
  have hx0 := blk_new W (.cells #[.int .i64 5, .int .u64 x.f0.f0, .int .u32 x.f0.f1, .slice A2 x.f1.length c2, .int .u64 x.f2, .int .u64 a.f0, .int .u32 a.f1, .int .u64 E] 66)
  go_enter Try.func32, Try.ntmps32
  go_wp2_with fail
  generalize W.alloc (.cells #[.int .i64 5, .int .u64 x.f0.f0, .int .u32 x.f0.f1, .slice A2 x.f1.length c2, .int .u64 x.f2, .int .u64 a.f0, .int .u32 a.f1, .int .u64 E] 66) = W0 at hB0 hx0 ⊢
  refine (take_any W0 p m r.length R F r (h.wo.below hB0) h.told (by omega) (by omega)).mono ?_
  rintro e w2 ⟨v, rfl, hS, hWo2, hg2⟩
  obtain ⟨A5, c5, rfl⟩ := Kd.R_slice (Kd.S_R hS)
  have hg := grown_of hB0 hg2
  have hV2 := Kd.V_step h.ref (fun k hk hlt => hg.block k hlt (by intro e; injection e with e; exact h.pm (e ▸ hk)))
  obtain ⟨_, hVc, hVC⟩ := Kd.V_reads' hV2
  obtain ⟨_, hS3c, hS3C⟩ := Kd.S_reads' hS
  go_wp2_with fail
  refine (same_two r (by omega) (fun y hy => by have := hrw y hy; omega) A5 A c5 c w2 hS3C hS3c hVC hVc).mono ?_
  rintro e w4 ⟨rfl, hB4⟩
  have hWo4 := hWo2.below hB4
  go_wp2_with fail
  refine (len_any w4 p m 0 R _ hWo4).mono ?_
  rintro e w4' ⟨rfl, k, rfl, hkn, hmany⟩
  obtain rfl : k = 0 := by omega
  go_wp2_with fail
  refine bodyPost_ret (v := .tuple #[.pointer (some ⟨p, 0, none⟩), .slice none 0 0, .bool true]) (by simp [results, Try.results32, go_sem]; try rfl) rfl ?_
  have hgF := grown_below hg hB4
  exact ⟨p, m, R, _, P, _, [], rfl, ⟨hWo4, told_nil, Kd.V_nil _ _ _ _ _, fun k hk => Nat.lt_of_lt_of_le (h.pl k hk) hgF.size, h.pm, h.pp, fun x hx => (by cases hx)⟩, hgF, .inl ⟨rfl, rfl⟩, fun k hk => .inl hk, fun k hk => .inl hk, Nat.zero_le _⟩
end Go.Proofs.Ytacacigpendneaa.QV
/- hayloftlaw10.step: all that there is. -/
namespace Go.Proofs.Ytacacigpendneaa.QV
open Go.RowKit Go.Proofs.YtacacigpendneaaW.PrintWords Go.Proofs.Ytacacigpendneaa.Mp Go.Proofs.Ytacacigpendneaa.Seq Go.Shelf
set_option linter.unusedVariables false
set_option linter.unusedSimpArgs false
set_option maxRecDepth 100000
set_option maxHeartbeats 2000000 in
theorem step6 (kd : Int) (x : Ver) (a : Nm) (E : Int) (A2 : Option Addr) (c2 : Nat) (W : World) (p m : Nat) (R : Nat → Prop) (F : Nm → Option Ver) (P P0 : Nat → Prop) (A : Option Addr) (c : Nat) (r : List Ver) (h : St W p m R F P (.slice A r.length c) r) (hn : r.length + 2 < 2932031007402) (d0 : (kd == 0) = false) (d1 : (kd == 1) = false) (d2 : (kd == 2) = false) (d3 : (kd == 3) = false) (d4 : (kd == 4) = false) (d5 : (kd == 5) = false) (d7 : (kd == 7) = false) :
    Calls Try.prog 32 #[.pointer (some ⟨p, 0, none⟩), .slice A r.length c, .agg #[.int .i64 kd, .int .u64 x.f0.f0, .int .u32 x.f0.f1, .slice A2 x.f1.length c2, .int .u64 x.f2, .int .u64 a.f0, .int .u32 a.f1, .int .u64 E]] W (Stepped W p m R P P0 r.length) := by
  have hrw := h.row
  have hB0 := below_alloc (Below.refl W.heap.size W) (.cells #[.int .i64 kd, .int .u64 x.f0.f0, .int .u32 x.f0.f1, .slice A2 x.f1.length c2, .int .u64 x.f2, .int .u64 a.f0, .int .u32 a.f1, .int .u64 E] 66)
  have hx0 := blk_new W (.cells #[.int .i64 kd, .int .u64 x.f0.f0, .int .u32 x.f0.f1, .slice A2 x.f1.length c2, .int .u64 x.f2, .int .u64 a.f0, .int .u32 a.f1, .int .u64 E] 66)
  go_enter Try.func32, Try.ntmps32
  go_wp2_with fail
  generalize W.alloc (.cells #[.int .i64 kd, .int .u64 x.f0.f0, .int .u32 x.f0.f1, .slice A2 x.f1.length c2, .int .u64 x.f2, .int .u64 a.f0, .int .u32 a.f1, .int .u64 E] 66) = W0 at hB0 hx0 ⊢
  obtain ⟨w1, hw1, hB1, hs1, hseq⟩ := all_gives W0 p m r.length R F r (fun _ => False) (h.wo.below hB0) h.told (by omega) (fun _ _ h => h)
  refine (all_any p W0).mono ?_
  rintro e w1' ⟨rfl, rfl⟩
  rw [← hw1]
  clear hw1
  go_wp2_with fail
  refine (gone_any _ _ _ _ w1 w1 (fun args w => by kernel_rfl) hseq (Below.refl _ _) (by omega)).mono ?_
  rintro e w2 ⟨v, rfl, hS, hB2⟩
  obtain ⟨A5, c5, rfl⟩ := Kd.R_slice (Kd.S_R hS)
  have hB01 := btr' hB0 hB1
  have hB02 := btr' hB01 hB2
  have h2 := h.below hB02
  have hz1 := hB01.size
  go_wp2_with fail
  refine (len_any w2 p m r.length R F h2.wo).mono ?_
  rintro e w2' ⟨rfl, k, rfl, hkn, hmany⟩
  obtain rfl := many_told h.told hmany
  obtain ⟨_, hVc, hVC⟩ := Kd.V_reads' h2.ref
  obtain ⟨_, hS3c, hS3C⟩ := Kd.S_reads' hS
  go_wp2_with fail
  refine (same_two r (by omega) (fun y hy => by have := hrw y hy; omega) A5 A c5 c _ hS3C hS3c hVC hVc).mono ?_
  rintro e w4 ⟨rfl, hB4⟩
  have hS4 := Kd.S_below hS hB4
  have hB04 := btr' hB02 hB4
  go_wp2_with fail
  refine (spoilt_any _ A5 c5 r w4 (spIn_S hS4) (by omega)).mono ?_
  rintro e w5 ⟨rfl, hsp⟩
  go_wp2_with fail
  refine bodyPost_ret (v := .tuple #[.pointer (some ⟨p, 0, none⟩), .slice A r.length c, .bool true]) (by simp [results, Try.results32, go_sem]; try rfl) rfl ?_
  have hB45 : Below w1.heap.size w4 w5 := hsp.below (fun i hi => hi.1)
  exact stepped_same h (hB04.trans (hB45.mono hz1)) rfl
end Go.Proofs.Ytacacigpendneaa.QV
/- hayloftlaw10.step: a clone. -/
namespace Go.Proofs.Ytacacigpendneaa.QV
open Go.RowKit Go.Proofs.YtacacigpendneaaW.PrintWords Go.Proofs.Ytacacigpendneaa.Mp Go.Proofs.Ytacacigpendneaa.Seq Go.Shelf
set_option linter.unusedVariables false
set_option linter.unusedSimpArgs false
set_option maxRecDepth 100000
set_option maxHeartbeats 2000000 in
theorem step7 (x : Ver) (a : Nm) (E : Int) (A2 : Option Addr) (c2 : Nat) (W : World) (p m : Nat) (R : Nat → Prop) (F : Nm → Option Ver) (P P0 : Nat → Prop) (A : Option Addr) (c : Nat) (r : List Ver) (h : St W p m R F P (.slice A r.length c) r) (hn : r.length + 2 < 2932031007402) :
    Calls Try.prog 32 #[.pointer (some ⟨p, 0, none⟩), .slice A r.length c, .agg #[.int .i64 7, .int .u64 x.f0.f0, .int .u32 x.f0.f1, .slice A2 x.f1.length c2, .int .u64 x.f2, .int .u64 a.f0, .int .u32 a.f1, .int .u64 E]] W (Stepped W p m R P P0 r.length) := by
  have hrw := h.row
  have hB0 := below_alloc (Below.refl W.heap.size W) (.cells #[.int .i64 7, .int .u64 x.f0.f0, .int .u32 x.f0.f1, .slice A2 x.f1.length c2, .int .u64 x.f2, .int .u64 a.f0, .int .u32 a.f1, .int .u64 E] 66)
  have hx0 := blk_new W (.cells #[.int .i64 7, .int .u64 x.f0.f0, .int .u32 x.f0.f1, .slice A2 x.f1.length c2, .int .u64 x.f2, .int .u64 a.f0, .int .u32 a.f1, .int .u64 E] 66)
  go_enter Try.func32, Try.ntmps32
  go_wp2_with fail
  generalize W.alloc (.cells #[.int .i64 7, .int .u64 x.f0.f0, .int .u32 x.f0.f1, .slice A2 x.f1.length c2, .int .u64 x.f2, .int .u64 a.f0, .int .u32 a.f1, .int .u64 E] 66) = W0 at hB0 hx0 ⊢
  refine (clone_wos W0 p m r.length R F (h.wo.below hB0)).mono ?_
  rintro e w2 ⟨p', m', rfl, hp', hm', hWo2, hB2⟩
  have hB02 := btr' hB0 hB2
  have h2 := h.below hB02
  have hz0 := hB0.size
  go_wp2_with fail
  refine bodyPost_ret (v := .tuple #[.pointer (some ⟨p', 0, none⟩), .slice A r.length c, .bool true]) (by simp [results, Try.results32, go_sem]; try rfl) rfl ?_
  exact ⟨p', m', R, F, P, _, r, rfl, ⟨hWo2, h.told, h2.ref, h2.pl, fun hk => by have := h.pl _ hk; omega, fun hk => by have := h.pl _ hk; omega, h.od⟩, below_grown hB02 m, .inr ⟨by omega, by omega⟩, fun k hk => .inl hk, fun k hk => .inl hk, by omega⟩
end Go.Proofs.Ytacacigpendneaa.QV
/- hayloftlaw10.step, run: every call of a script is answered as the document says. -/
namespace Go.Proofs.Ytacacigpendneaa.QV
open Go.RowKit Go.Proofs.YtacacigpendneaaW.PrintWords Go.Proofs.Ytacacigpendneaa.Mp Go.Proofs.Ytacacigpendneaa.Seq Go.Shelf
set_option linter.unusedVariables false
set_option linter.unusedSimpArgs false
set_option maxRecDepth 100000
theorem step_any (o : OpT) (ho : OpOk o) (A2 : Option Addr) (c2 : Nat) (W : World) (p m : Nat) (R : Nat → Prop) (F : Nm → Option Ver) (P P0 : Nat → Prop) (A : Option Addr) (c : Nat) (r : List Ver) (h : St W p m R F P (.slice A r.length c) r) (hn : r.length + 2 < 2932031007402)
    (hle : o.2.1.f1.length ≤ c2) (hF2 : Kd.F kS W P0 A2 o.2.1.f1.length o.2.1.f1) (hP0 : ∀ k, P0 k → k < W.heap.size) (hPm : ¬ P0 m) (hPp : ¬ P0 p) :
    Calls Try.prog 32 #[.pointer (some ⟨p, 0, none⟩), .slice A r.length c, .agg #[.int .i64 o.1, .int .u64 o.2.1.f0.f0, .int .u32 o.2.1.f0.f1, .slice A2 o.2.1.f1.length c2, .int .u64 o.2.1.f2, .int .u64 o.2.2.1.f0, .int .u32 o.2.2.1.f1, .int .u64 o.2.2.2]] W (Stepped W p m R P P0 r.length) := by
  obtain ⟨kd, x, a, E⟩ := o
  obtain ⟨h1, h2, h3, h4, h5⟩ := ho
  simp only at h1 h2 h3 h4 h5 hle hF2 ⊢
  by_cases k0 : kd = 0
  · subst k0; exact step0 x a E A2 c2 W p m R F P P0 A c r h hn h1 hle hF2 h2 hP0 hPm hPp
  by_cases k1 : kd = 1
  · subst k1; exact step1 x a E A2 c2 W p m R F P P0 A c r h hn h4
  by_cases k2 : kd = 2
  · subst k2; exact step2 x a E A2 c2 W p m R F P P0 A c r h hn h4
  by_cases k3 : kd = 3
  · subst k3; exact step3 x a E A2 c2 W p m R F P P0 A c r h hn
  by_cases k4 : kd = 4
  · subst k4; exact step4 x a E A2 c2 W p m R F P P0 A c r h hn
  by_cases k5 : kd = 5
  · subst k5; exact step5 x a E A2 c2 W p m R F P P0 A c r h hn
  by_cases k7 : kd = 7
  · subst k7; exact step7 x a E A2 c2 W p m R F P P0 A c r h hn
  exact step6 kd x a E A2 c2 W p m R F P P0 A c r h hn (beq_eq_false_iff_ne.2 k0) (beq_eq_false_iff_ne.2 k1) (beq_eq_false_iff_ne.2 k2) (beq_eq_false_iff_ne.2 k3) (beq_eq_false_iff_ne.2 k4) (beq_eq_false_iff_ne.2 k5) (beq_eq_false_iff_ne.2 k7)
abbrev zOp : OpT := (0, z29, z25, 0)
theorem op_get {w : World} {A : Option Addr} {n : Nat} {ops : List OpT} (h : kOp.C w A n ops) (i : Nat) (hi : i < n) : ∃ ad A2 c2, A = some ad ∧ w.cell? (ad.add (i * 8)) = some (.int .i64 (ops.getD i zOp).1) ∧
    w.cell? ⟨(ad.add (i * 8)).block, (ad.add (i * 8)).off + 1, none⟩ = some (.int .u64 (ops.getD i zOp).2.1.f0.f0) ∧ w.cell? ⟨(ad.add (i * 8)).block, (ad.add (i * 8)).off + 2, none⟩ = some (.int .u32 (ops.getD i zOp).2.1.f0.f1) ∧
    w.cell? ⟨(ad.add (i * 8)).block, (ad.add (i * 8)).off + 3, none⟩ = some (.slice A2 (ops.getD i zOp).2.1.f1.length c2) ∧ w.cell? ⟨(ad.add (i * 8)).block, (ad.add (i * 8)).off + 4, none⟩ = some (.int .u64 (ops.getD i zOp).2.1.f2) ∧
    w.cell? ⟨(ad.add (i * 8)).block, (ad.add (i * 8)).off + 5, none⟩ = some (.int .u64 (ops.getD i zOp).2.2.1.f0) ∧ w.cell? ⟨(ad.add (i * 8)).block, (ad.add (i * 8)).off + 6, none⟩ = some (.int .u32 (ops.getD i zOp).2.2.1.f1) ∧
    w.cell? ⟨(ad.add (i * 8)).block, (ad.add (i * 8)).off + 7, none⟩ = some (.int .u64 (ops.getD i zOp).2.2.2) ∧ (ops.getD i zOp).2.1.f1.length ≤ c2 ∧ kS.C w A2 (ops.getD i zOp).2.1.f1.length (ops.getD i zOp).2.1.f1 := by
  obtain ⟨ad, c, e, _, hK, hc0⟩ := Kd.C_get h zOp (i : Int) (by omega) (by omega)
  have hc : ∀ j u, c[j]? = some u → w.cell? (ad.add (i * 8 + j)) = some u := hc0
  rw [Int.toNat_natCast] at hK
  obtain ⟨A2, c2, rfl, l2, g2⟩ := op_open hK
  exact ⟨ad, A2, c2, e, hc 0 _ rfl, by rw [← add_field _ _ 1 (by omega)]; exact hc 1 _ rfl, by rw [← add_field _ _ 2 (by omega)]; exact hc 2 _ rfl, by rw [← add_field _ _ 3 (by omega)]; exact hc 3 _ rfl, by rw [← add_field _ _ 4 (by omega)]; exact hc 4 _ rfl,
    by rw [← add_field _ _ 5 (by omega)]; exact hc 5 _ rfl, by rw [← add_field _ _ 6 (by omega)]; exact hc 6 _ rfl, by rw [← add_field _ _ 7 (by omega)]; exact hc 7 _ rfl, l2, g2⟩
/-- The rows of what came in, in whatever world that keeps it. -/
theorem row_F {w0 W : World} (hb : Below w0.heap.size w0 W) {A : Option Addr} {n : Nat} {xs : List Val} (h : kS.C w0 A n xs) : Kd.F kS W (fun k => k < w0.heap.size) A n xs := fun W' hW =>
  k69_heap.C (fun k hk => (hW k hk (Nat.lt_of_lt_of_le hk hb.size)).trans (hb.block k hk)) h
/-- What a run leaves behind. -/
def Ran (w0 : World) (N : Nat) (e : Ending) (W' : World) : Prop := ∃ p' m' R' F' P' A' c' r', e = .returned (.tuple #[.pointer (some ⟨p', 0, none⟩), .slice A' (List.length r') c', .bool true]) ∧ St W' p' m' R' F' P' (.slice A' r'.length c') r' ∧ Below w0.heap.size w0 W' ∧ w0.heap.size ≤ m' ∧ w0.heap.size ≤ p' ∧ r'.length ≤ N
set_option maxHeartbeats 2000000 in
theorem run_any (w0 : World) (As : Option Addr) (cs : Nat) (ops : List OpT) (hops : kOp.C w0 As ops.length ops) (hcs : ops.length ≤ cs) (hok : ∀ o ∈ ops, OpOk o) (W : World) (hb : Below w0.heap.size w0 W) (p m : Nat) (R : Nat → Prop) (F : Nm → Option Ver) (P : Nat → Prop) (A : Option Addr) (c : Nat) (r : List Ver)
    (h : St W p m R F P (.slice A r.length c) r) (hm : w0.heap.size ≤ m) (hp : w0.heap.size ≤ p) (hn : r.length + ops.length + 3 < 2932031007402) :
    Calls Try.prog 27 #[.pointer (some ⟨p, 0, none⟩), .slice A r.length c, .slice As ops.length cs] W (Ran w0 (r.length + ops.length + 1)) := by
  go_enter Try.func27, Try.ntmps27
  go_wp2_with fail
  go_loopw [0, 1, 14] (fun v0 v1 i wr => ∃ k : Nat, k ≤ ops.length ∧ i = .int .i64 k ∧ ∃ p' m' R' F' P' A' c' r', v0 = .pointer (some ⟨p', 0, none⟩) ∧ v1 = .slice A' (List.length r') c' ∧ St wr p' m' R' F' P' (.slice A' r'.length c') r' ∧ Below w0.heap.size w0 wr ∧ w0.heap.size ≤ m' ∧ w0.heap.size ≤ p' ∧ r'.length ≤ r.length + k)
    (fun _ _ i _ => ops.length - (intOf i).toNat)
  case atStart => exact ⟨0, Nat.zero_le _, rfl, p, m, R, F, P, A, c, r, rfl, rfl, h, hb, hm, hp, Nat.le_refl _⟩
  case round =>
    obtain ⟨k, hk, rfl, p', m', R', F', P', A', c', r', rfl, rfl, h', hb', hm', hp', hr'⟩ := hrel
    by_cases hlt : k < ops.length
    · obtain ⟨ad, A2, c2, rfl, y0, y1, y2, y3, y4, y5, y6, y7, hle, hC⟩ := op_get hops k hlt
      have hmem : ops.getD k zOp ∈ ops := getD_mem _ hlt
      have ho := hok _ hmem
      clear hmem
      generalize ops.getD k zOp = o at *
      replace y0 := pw_cell_below hb' y0
      replace y1 := pw_cell_below hb' y1
      replace y2 := pw_cell_below hb' y2
      replace y3 := pw_cell_below hb' y3
      replace y4 := pw_cell_below hb' y4
      replace y5 := pw_cell_below hb' y5
      replace y6 := pw_cell_below hb' y6
      replace y7 := pw_cell_below hb' y7
      go_wp2_with fail
      have hb2 : Below wr.heap.size wr (wr.alloc (.cells #[.int .i64 o.1, .int .u64 o.2.1.f0.f0, .int .u32 o.2.1.f0.f1, .slice A2 o.2.1.f1.length c2, .int .u64 o.2.1.f2, .int .u64 o.2.2.1.f0, .int .u32 o.2.2.1.f1, .int .u64 o.2.2.2] 66)) := below_alloc (Below.refl _ _) _
      generalize wr.alloc (.cells #[.int .i64 o.1, .int .u64 o.2.1.f0.f0, .int .u32 o.2.1.f0.f1, .slice A2 o.2.1.f1.length c2, .int .u64 o.2.1.f2, .int .u64 o.2.2.1.f0, .int .u32 o.2.2.1.f1, .int .u64 o.2.2.2] 66) = W2 at hb2 ⊢
      have hB2 := hb'.trans (hb2.mono hb'.size)
      have hzs := hB2.size
      refine (step_any o ho A2 c2 W2 p' m' R' F' P' (fun k => k < w0.heap.size) A' c' r' (h'.below hb2) (by omega) hle (row_F hB2 hC) (fun k hk => by omega) (by omega) (by omega)).mono ?_
      rintro e W3 ⟨p3, m3, R3, F3, P3, rv3, r3, rfl, h3, hg3, hpm3, _, _, hl3⟩
      obtain ⟨A3, c3, rfl⟩ := Kd.V_slice h3.ref
      have hB3 : Below w0.heap.size w0 W3 := hB2.grown hg3 hB2.size (fun k e => by cases e; exact hm')
      go_wp2_with fail
      go_roundw
      case rel =>
        refine ⟨k + 1, by omega, by go_num, p3, m3, R3, F3, P3, A3, c3, r3, rfl, rfl, h3, hB3, ?_, ?_, by omega⟩
        · rcases hpm3 with ⟨z1, z2⟩ | ⟨z1, z2⟩ <;> omega
        · rcases hpm3 with ⟨z1, z2⟩ | ⟨z1, z2⟩ <;> omega
      case measure => simp [intOf]; omega
    · obtain rfl : k = ops.length := by omega
      go_wp2_with fail
      have hzs := hb'.size
      refine (step_any (6, ⟨⟨0, 0⟩, [], 0⟩, ⟨0, 0⟩, 0) ⟨⟨by decide, by decide⟩, by decide, by decide, ⟨by decide, by decide⟩, by decide⟩ none 0 wr p' m' R' F' P' (fun _ => False) A' c' r' h' (by omega) (Nat.le_refl _) (fun W' _ => Kd.C_nil _ _) (fun _ h => h.elim) (fun h => h) (fun h => h)).mono ?_
      rintro e W3 ⟨p3, m3, R3, F3, P3, rv3, r3, rfl, h3, hg3, hpm3, _, _, hl3⟩
      obtain ⟨A3, c3, rfl⟩ := Kd.V_slice h3.ref
      have hB3 : Below w0.heap.size w0 W3 := hb'.grown hg3 hb'.size (fun k e => by cases e; exact hm')
      go_wp2_with fail
      refine bodyPost_ret (v := .tuple #[.pointer (some ⟨p3, 0, none⟩), .slice A3 r3.length c3, .bool true]) (by simp [results, Try.results27, go_sem]; try rfl) rfl ?_
      refine ⟨p3, m3, R3, F3, P3, A3, c3, r3, rfl, h3, hB3, ?_, ?_, by omega⟩
      · rcases hpm3 with ⟨z1, z2⟩ | ⟨z1, z2⟩ <;> omega
      · rcases hpm3 with ⟨z1, z2⟩ | ⟨z1, z2⟩ <;> omega
end Go.Proofs.Ytacacigpendneaa.QV
/- WosAll, walked. -/
namespace Go.Proofs.Ytacacigpendneaa.QV
open Go.RowKit Go.Proofs.YtacacigpendneaaW.PrintWords Go.Proofs.Ytacacigpendneaa.Mp Go.Proofs.Ytacacigpendneaa.Seq Go.Shelf
set_option linter.unusedVariables false
set_option linter.unusedSimpArgs false
set_option maxRecDepth 100000
theorem St.first {W : World} {p m : Nat} (h : Wo W p m 0 (fun _ => False) (fun _ => none)) : St W p m (fun _ => False) (fun _ => none) (fun _ => False) (.slice none ([] : List Ver).length 0) [] :=
  ⟨h, told_nil, Kd.V_nil _ _ _ _ _, fun _ h => h.elim, fun h => h, fun h => h, fun x hx => (by cases hx)⟩
end Go.Proofs.Ytacacigpendneaa.QV
/- WosPurges, walked. -/
namespace Go.Proofs.Ytacacigpendneaa.QV
open Go.RowKit Go.Proofs.YtacacigpendneaaW.PrintWords Go.Proofs.Ytacacigpendneaa.Mp Go.Proofs.Ytacacigpendneaa.Seq Go.Shelf
set_option linter.unusedVariables false
set_option linter.unusedSimpArgs false
set_option maxRecDepth 100000
end Go.Proofs.Ytacacigpendneaa.QV
/- WosTakes, walked. -/
namespace Go.Proofs.Ytacacigpendneaa.QV
open Go.RowKit Go.Proofs.YtacacigpendneaaW.PrintWords Go.Proofs.Ytacacigpendneaa.Mp Go.Proofs.Ytacacigpendneaa.Seq Go.Shelf
set_option linter.unusedVariables false
set_option linter.unusedSimpArgs false
set_option maxRecDepth 100000
theorem srt_irr {a b : Ver} (h : cmpNm a.f0 b.f0 < 0) : ¬ cmpNm b.f0 a.f0 < 0 := fun k => by rw [cmpNm_neg] at h k; omega
theorem srt_append {L : List Ver} {x : Ver} (h : Srt (L ++ [x])) : Srt L ∧ ∀ y ∈ L, cmpNm y.f0 x.f0 < 0 := by
  have := List.pairwise_append.1 h
  exact ⟨this.1, fun y hy => this.2.2 y hy x (by simp)⟩
theorem putR_last {L : List Ver} {x : Ver} (h : Srt (L ++ [x])) : putR false L x = L ++ [x] := by
  obtain ⟨h1, h2⟩ := srt_append h
  refine sorted_eq (r := fun (a b : Ver) => cmpNm a.f0 b.f0 < 0) (fun a b => srt_irr) _ _ (putR_srt x L h1) h (fun y => ?_)
  rw [putR_mem, List.mem_append, List.mem_singleton]
  constructor
  · rintro (⟨h3, _⟩ | ⟨_, h3⟩)
    · exact .inl h3
    · exact .inr h3
  · rintro (h3 | h3)
    · exact .inl ⟨h3, fun e => by have := h2 y h3; rw [e, cmpNm_neg] at this; omega⟩
    · exact .inr ⟨rfl, h3⟩
theorem adR_last {L : List Ver} {x : Ver} (h : Srt (L ++ [x])) (hx : x.f2 = 0 ∨ x.f0.f0 < x.f2) : adR L x = (L ++ [x], 0) := by
  have hh : hasN L x.f0 = false := by
    unfold hasN
    rw [List.any_eq_false]
    intro y hy
    have := (srt_append h).2 y hy
    rw [cmpNm_neg] at this
    simp only [decide_eq_true_eq]
    intro e
    rw [e] at this
    omega
  unfold adR
  rw [hh, if_neg (by simp), putR_last h]
  by_cases h0 : x.f2 = 0
  · rw [if_pos h0]
  · rw [if_neg h0, if_neg (by omega)]
theorem adR_twice (L : List Ver) (x : Ver) : adR (L ++ [x]) x = (L ++ [x], 100) := by
  have hh : hasN (L ++ [x]) x.f0 = true := by
    unfold hasN
    rw [List.any_append]
    simp
  unfold adR
  rw [hh, if_pos rfl]
set_option maxHeartbeats 2000000 in
theorem walkTakes (As : Option Addr) (cs : Nat) (ops : List OpT) (E : Int) (w : World) (hops : kOp.C w As ops.length ops) (hcs : ops.length ≤ cs) (hok : ∀ o ∈ ops, OpOk o) (hn : ops.length * 80 ≤ 140737488351232) :
    Calls Try.prog 10 #[.slice As ops.length cs, .int .u64 E] w fun e w' => e = .returned (.bool true) ∧ Below w.heap.size w w' := by
  go_enter Try.func10, Try.ntmps10
  go_wp2_with fail
  refine (begun_any w).mono ?_
  rintro e w1 ⟨p0, m0, rfl, hWo, ⟨hm0, hp0⟩, hB1⟩
  go_wp2_with fail
  refine (run_any w As cs ops hops hcs hok w1 hB1 p0 m0 _ _ _ none 0 [] (St.first hWo) hm0 hp0 (by simp; omega)).mono ?_
  rintro e w2 ⟨p, m, R, F, P, A, c, r, rfl, h, hB2, hm, hp, hrl⟩
  have hn' : r.length + 2 < 2932031007402 := by simp at hrl; omega
  clear hrl
  have hrw := h.row
  have hll := atL_len r E
  have hrwE := atL_row (l := r) (E := E) (b := 3518437208780) (fun y hy => by have := hrw y hy; omega)
  have hml := h.wo.ml
  go_wp2_with fail
  refine (take_any w2 p m r.length R F r h.wo h.told (by omega) (by omega)).mono ?_
  rintro e w3 ⟨v, rfl, hS, hWo3, hg3⟩
  obtain ⟨A3, c3, rfl⟩ := Kd.R_slice (Kd.S_R hS)
  have hSb := Kd.S_bound hS
  have hz3 := hg3.size
  have hV3 := Kd.V_step h.ref (w1 := w3) (fun k hk hlt => hg3.block k hlt (by intro e; injection e with e; exact h.pm (e ▸ hk)))
  go_wp2_with fail
  go_loopw [28] (fun i wr => ∃ k : Nat, k ≤ r.length ∧ i = .int .i64 k ∧ ∃ n' R' F', Wo wr p m n' R' F' ∧ IsTold F' (r.take k) ∧ w3.grownBy wr (some m)) (fun i _ => r.length - (intOf i).toNat)
  case atStart => exact ⟨0, Nat.zero_le _, rfl, 0, R, _, hWo3, told_nil, ⟨rfl, rfl, rfl, Nat.le_refl _, fun _ _ _ => rfl⟩⟩
  case round =>
    obtain ⟨k, hk, rfl, n', R', F', hWoR, hTR, hgR⟩ := hrel
    have hSr := Kd.S_step hSb (w1 := wr) (fun j hj hlt => hgR.block j hlt (fun e => by have := hj.2.1; injection e with e; omega))
    by_cases hlt : k < r.length
    · have hVr : Kd.V kVer tVer wr 0 (fun j => True ∧ w2.heap.size ≤ j ∧ j < w3.heap.size) (.slice A3 r.length c3) r := Kd.V_mono (Kd.S_V hSr) (fun j hj => ⟨trivial, hj.2.1, hj.2.2.1⟩)
      obtain ⟨ad, A2, c2, rfl, x0, x1, x2, x3, hle, hC, hF⟩ := ver_get hVr (k : Int) (by omega) (by omega)
      simp only [Int.toNat_natCast] at x0 x1 x2 x3
      have hmem : rd_T29 r (k : Int) ∈ r := by rw [rdVer]; exact getD_mem _ hlt
      have hts := take_snoc' z29 r k hlt
      rw [← rdVer] at hts
      have hod := h.od _ hmem
      have hxk := (h.told.2.1 _ hmem).1
      have hrx := hrw _ hmem
      clear hmem
      have htl : (r.take k).length = k := by rw [List.length_take]; omega
      generalize rd_T29 r (k : Int) = x at *
      have hsrt : Srt (r.take k ++ [x]) := by rw [hts]; exact h.told.1.sublist (List.take_sublist _ _)
      have had := adR_last hsrt hod
      have had2 := adR_twice (r.take k) x
      go_wp2_with fail
      have hb5 : Below wr.heap.size wr (wr.alloc (.cells #[.int .u64 x.f0.f0, .int .u32 x.f0.f1, .slice A2 x.f1.length c2, .int .u64 x.f2] tVer)) := below_alloc (Below.refl _ _) _
      have hx5 := blk_new wr (.cells #[.int .u64 x.f0.f0, .int .u32 x.f0.f1, .slice A2 x.f1.length c2, .int .u64 x.f2] tVer)
      generalize wr.alloc (.cells #[.int .u64 x.f0.f0, .int .u32 x.f0.f1, .slice A2 x.f1.length c2, .int .u64 x.f2] tVer) = w5 at hb5 hx5 ⊢
      have hWo5 := wo_fit (hWoR.below hb5) hTR
      refine (len_any w5 p m _ R' F' hWo5).mono ?_
      rintro e w5' ⟨rfl, kk, rfl, hkn, hmany⟩
      obtain rfl := many_told hTR hmany
      rw [htl] at hWo5 ⊢
      have d1 : decide ((r.length : Int) < (k : Int)) = false := decide_eq_false (by omega)
      have d1' : decide (r.length < k) = false := decide_eq_false (by omega)
      have v0 := blk_cell hx5 0
      have v1 := blk_cell hx5 1
      have v2 := blk_cell hx5 2
      have v3 := blk_cell hx5 3
      have hC5 := Kd.C_below hC hb5
      have hWml := hWoR.ml
      clear x0 x1 x2 x3
      go_wp2_with fail
      refine (add_gen x A2 c2 w5' p m k R' F' (r.take k) hWo5 hTR hxk hC5 hle hrx (by unfold maxLen; omega)).mono ?_
      simp only [had]
      rintro e w6 ⟨rfl, n6, R6, F6, hWo6, hT6, hg6, _⟩
      have hWo6 := wo_fit hWo6 hT6
      have hx6 := blk_grown hx5 hg6 (by intro e; injection e with e; omega)
      have u0 := blk_cell hx6 0
      have u1 := blk_cell hx6 1
      have u2 := blk_cell hx6 2
      have u3 := blk_cell hx6 3
      have hg36 := (grown_below hgR hb5).andThen hg6 (fun j hj => .inr hj)
      have hC6 := Kd.F_now (Kd.F_step hF (W1 := w6) (fun j hj hlt => (hg6.block j (Nat.lt_of_lt_of_le hlt hb5.size) (fun e => by have := hj.2.1; injection e with e; omega)).trans (hb5.block j hlt)))
      clear v0 v1 v2 v3
      go_wp2_with fail
      refine (add_gen x A2 c2 w6 p m _ R6 F6 (r.take k ++ [x]) hWo6 hT6 hxk hC6 hle hrx (by simp; unfold maxLen; omega)).mono ?_
      simp only [had2]
      rintro e w7 ⟨rfl, n7, R7, F7, hWo7, hT7, hg7, _⟩
      go_wp2_with fail
      go_roundw
      case rel =>
        refine ⟨k + 1, by omega, by go_num, n7, R7, F7, hWo7, by rw [← hts]; exact hT7, hg36.andThen hg7 (fun j hj => .inr hj)⟩
      case measure => simp [intOf]; omega
    · obtain rfl : k = r.length := by omega
      rw [List.take_length] at hTR
      have hWoR := wo_fit hWoR hTR
      have hVR := Kd.V_step hV3 (w1 := wr) (fun j hj hlt => hgR.block j hlt (by intro e; injection e with e; exact h.pm (e ▸ hj)))
      have hzR := hgR.size
      have hB2r : Below w.heap.size w wr := (hB2.grown hg3 hB2.size (fun k e => by cases e; exact hm)).grown hgR (by have := hB2.size; omega) (fun k e => by cases e; exact hm)
      go_wp2_with fail
      obtain ⟨w4, hw4, hB4, hs4, hseq4⟩ := all_gives wr p m r.length R' F' r (fun _ => False) hWoR hTR (by omega) (fun _ _ h => h)
      refine (all_any p wr).mono ?_
      rintro e w4' ⟨rfl, rfl⟩
      rw [← hw4]
      clear hw4
      go_wp2_with fail
      refine (gone_any _ _ _ _ w4 w4 (fun args w => by kernel_rfl) hseq4 (Below.refl _ _) (by omega)).mono ?_
      rintro e w5 ⟨v5, rfl, hS5, hB5⟩
      obtain ⟨A5, c5, rfl⟩ := Kd.R_slice (Kd.S_R hS5)
      have hBr5 := btr' hB4 hB5
      obtain ⟨_, e1, e2⟩ := Kd.S_reads' hS5
      have hVR5 := Kd.V_below hVR hBr5
      obtain ⟨_, e3, e4⟩ := Kd.V_reads' hVR5
      go_wp2_with fail
      refine (same_two r (by omega) (fun y hy => by have := hrw y hy; omega) A5 A c5 c w5 e2 e1 e4 e3).mono ?_
      rintro e w6 ⟨rfl, hB6⟩
      have hBr6 := btr' hBr5 hB6
      have hWo6 := hWoR.below hBr6
      have hVR6 := Kd.V_below hVR5 hB6
      go_wp2_with fail
      obtain ⟨w7, hw7, hB7, hs7, hseq7⟩ := at_gives w6 p m r.length R' F' r E (fun _ => False) hWo6 hTR (by omega) (fun _ _ h => h) (fun _ h => h.elim)
      refine (at_any p E w6).mono ?_
      rintro e w7' ⟨rfl, rfl⟩
      rw [← hw7]
      clear hw7
      go_wp2_with fail
      refine (gone_any _ _ _ _ w7 w7 (fun args w => by kernel_rfl) hseq7 (Below.refl _ _) (by omega)).mono ?_
      rintro e w8 ⟨v8, rfl, hS8, hB8⟩
      obtain ⟨A8, c8, rfl⟩ := Kd.R_slice (Kd.S_R hS8)
      have hB68 := btr' hB7 hB8
      have hVR8 := Kd.V_below hVR6 hB68
      go_wp2_with fail
      refine (refAt_any A c r E P w8 hVR8 (by omega)).mono ?_
      rintro e w9 ⟨v9, rfl, hN9, hB9⟩
      obtain ⟨A9, c9, rfl⟩ := Kd.N_slice hN9
      obtain ⟨_, f1, f2⟩ := Kd.S_reads' (Kd.S_below hS8 hB9)
      obtain ⟨_, f3, f4⟩ := Kd.N_reads' hN9
      go_wp2_with fail
      refine (same_two (atL r E) (by omega) (fun y hy => by have := hrwE y hy; omega) A8 A9 c8 c9 w9 f2 f1 f4 f3).mono ?_
      rintro e wa ⟨rfl, hBa⟩
      go_wp2_with fail
      go_ret
      exact ⟨rfl, btr' hB2r (btr' hBr6 (btr' hB68 (btr' hB9 hBa)))⟩
end Go.Proofs.Ytacacigpendneaa.QV
