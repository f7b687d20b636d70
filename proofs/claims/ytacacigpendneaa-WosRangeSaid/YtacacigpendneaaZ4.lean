/- The parts WStep4, WStep5, WStep6, WStep7, WRun, LWAll, WRunF, LWPurges, LWTakes, LWRange of this proof, one behind the other. -/
import Derived.Test.YtacacigpendneaaZ3
/- hayloftlaw10.step: a purge. -/
namespace Go.Proofs.Ytacacigpendneaa.QV
open Go.RowKit Go.Proofs.YtacacigpendneaaW.PrintWords Go.Proofs.Ytacacigpendneaa.Mp Go.Proofs.Ytacacigpendneaa.Seq Go.Shelf
set_option linter.unusedVariables false
set_option linter.unusedSimpArgs false
set_option maxRecDepth 100000
def stays (E : Int) (x : Ver) : Bool := !(x.f2 != 0 && decide (x.f2 ≤ E))
theorem stays_or (E : Int) (x : Ver) : stays E x = true ↔ (x.f2 = 0 ∨ x.f2 > E) := by
  unfold stays
  by_cases h : x.f2 = 0
  · simp [h]
  · have : (x.f2 != 0) = true := bne_iff_ne.2 h
    rw [this, Bool.true_and, Bool.not_eq_true', decide_eq_false_iff_not]
    omega
theorem filter_take (l : List Ver) (q : Ver → Bool) (k : Nat) (h : k < l.length) : (l.take (k + 1)).filter q = if q l[k] = true then (l.take k).filter q ++ [l[k]] else (l.take k).filter q := by
  rw [List.take_succ_eq_append_getElem h, List.filter_append, List.filter_cons]
  split <;> simp
theorem purge_l0 (l : List Ver) (hl : l.length < 2932031007402) (E : Int) : ∀ (n i : Nat), i + n = l.length → hayloftref10_Purge.l0 (n + 1) l E ((l.take i).filter (stays E)) i = some (l.filter (stays E)) := by
  intro n
  induction n with
  | zero =>
    intro i hi
    rw [Nat.add_zero] at hi
    subst hi
    rw [hayloftref10_Purge.l0, if_neg (by omega), List.take_length]
  | succ n ih =>
    intro i hi
    have hil : i < l.length := by omega
    have hw : wrap64 ((i : Int) + 1) = ((i + 1 : Nat) : Int) := by rw [wrap_succ i (by omega)]; rfl
    have hg : rd_T29 l (i : Int) = l[i] := by rw [rdVer, List.getD_eq_getElem?_getD, List.getElem?_eq_getElem hil]; rfl
    have hlen : ((l.take i).filter (stays E)).length < 2932031007402 := Nat.lt_of_le_of_lt (List.length_filter_le _ _) (by rw [List.length_take]; omega)
    have hft := filter_take l (stays E) i hil
    have h1 := ih (i + 1) (by omega)
    have hso := stays_or E l[i]
    rw [hayloftref10_Purge.l0, if_pos (by omega), if_pos (Int.natCast_nonneg i), hw, hg, ver_eta]
    by_cases h0 : l[i].f2 = 0
    · rw [if_pos h0, if_pos hlen]
      rw [hft, if_pos (hso.2 (.inl h0))] at h1
      exact h1
    · rw [if_neg h0]
      by_cases h2 : l[i].f2 > E
      · rw [if_pos h2, if_pos hlen]
        rw [hft, if_pos (hso.2 (.inr h2))] at h1
        exact h1
      · rw [if_neg h2]
        rw [hft, if_neg (fun hs => by rcases hso.1 hs with z | z; exact h0 z; exact h2 z)] at h1
        exact h1
theorem purge_f (l : List Ver) (hl : l.length < 2932031007402) (E : Int) : hayloftref10_Purge.f (l.length + 1) l E = some (l.filter (stays E)) := by
  have h := purge_l0 l hl E l.length 0 (by omega)
  rw [List.take_zero] at h
  exact h
theorem told_filter {F : Nm → Option Ver} {L : List Ver} (h : IsTold F L) (q : Ver → Bool) : IsTold (fun k => (F k).filter q) (L.filter q) := by
  refine ⟨h.1.filter _, fun x hx => ?_, fun k hk hs0 => ?_⟩
  · obtain ⟨h1, h2⟩ := List.mem_filter.1 hx
    obtain ⟨h3, h4⟩ := h.2.1 x h1
    exact ⟨h3, by show (F x.f0).filter q = _; rw [h4]; simp [Option.filter, h2]⟩
  · have hs : ((F k).filter q).isSome = true := hs0
    cases hF : F k with
    | none => rw [hF] at hs; cases hs
    | some y =>
      have hs' := hs
      rw [hF] at hs'
      have hq : q y = true := by
        cases hqy : q y
        · simp [Option.filter, hqy] at hs'
        · rfl
      obtain ⟨x, hx, e⟩ := h.2.2 k hk (by rw [hF]; rfl)
      have := (h.2.1 x hx).2
      rw [e, hF] at this
      cases this
      exact ⟨y, List.mem_filter.2 ⟨hx, hq⟩, e⟩
set_option maxHeartbeats 2000000 in
theorem step4 (x : Ver) (a : Nm) (E : Int) (A2 : Option Addr) (c2 : Nat) (W : World) (p m : Nat) (R : Nat → Prop) (F : Nm → Option Ver) (P P0 : Nat → Prop) (A : Option Addr) (c : Nat) (r : List Ver) (h : St W p m R F P (.slice A r.length c) r) (hn : r.length + 2 < 2932031007402) :
    Calls Try.prog 32 #[.pointer (some ⟨p, 0, none⟩), .slice A r.length c, .agg #[.int .i64 4, .int .u64 x.f0.f0, .int .u32 x.f0.f1, .slice A2 x.f1.length c2, .int .u64 x.f2, .int .u64 a.f0, .int .u32 a.f1, .int .u64 E]] W (Stepped W p m R P P0 r.length) := by
  have hrw := h.row
  have hB0 := below_alloc (Below.refl W.heap.size W) (.cells #[.int .i64 4, .int .u64 x.f0.f0, .int .u32 x.f0.f1, .slice A2 x.f1.length c2, .int .u64 x.f2, .int .u64 a.f0, .int .u32 a.f1, .int .u64 E] 66)
  have hx0 := blk_new W (.cells #[.int .i64 4, .int .u64 x.f0.f0, .int .u32 x.f0.f1, .slice A2 x.f1.length c2, .int .u64 x.f2, .int .u64 a.f0, .int .u32 a.f1, .int .u64 E] 66)
  go_enter Try.func32, Try.ntmps32
  go_wp2_with fail
  generalize W.alloc (.cells #[.int .i64 4, .int .u64 x.f0.f0, .int .u32 x.f0.f1, .slice A2 x.f1.length c2, .int .u64 x.f2, .int .u64 a.f0, .int .u32 a.f1, .int .u64 E] 66) = W0 at hB0 hx0 ⊢
  have hy7 := blk_cell hx0 7
  refine (purge_any W0 p m r.length R F E (h.wo.below hB0)).mono ?_
  rintro e w2 ⟨k1, k2, rfl, hk1, hk2, hmany1, hmany2, hWo2, hg2⟩
  have hT2 : IsTold (purgeF F E) (r.filter (stays E)) := told_filter h.told (stays E)
  obtain rfl := many_told h.told hmany1
  obtain rfl := many_told hT2 hmany2
  have hg := grown_of hB0 hg2
  have hV2 := Kd.V_step h.ref (fun k hk hlt => hg.block k hlt (by intro e; injection e with e; exact h.pm (e ▸ hk)))
  have hx2 := blk_grown hx0 hg2 (by have := h.wo.ml; intro e; injection e with e; omega)
  have y7 := blk_cell hx2 7
  have hzg := hg.size
  have hfl : (r.filter (stays E)).length ≤ r.length := List.length_filter_le _ _
  have hpf := purge_f r (by omega) E
  have hod : ∀ x ∈ r.filter (stays E), x.f2 = 0 ∨ x.f0.f0 < x.f2 := fun x hx => h.od x (List.mem_filter.1 hx).1
  generalize r.filter (stays E) = s at hT2 hfl hpf hmany2 hk2 hod ⊢
  go_wp2_with fail
  refine (hayloftref10_Purge.calls (r.length + 1) P A c r E s w2 hV2 hpf).mono ?_
  rintro e w3 ⟨v3, rfl, hN3, hB3⟩
  obtain ⟨A6, c6, rfl⟩ := Kd.N_slice hN3
  have hgF := grown_below hg hB3
  go_wp2_with fail
  refine bodyPost_ret (v := .tuple #[.pointer (some ⟨p, 0, none⟩), .slice A6 s.length c6, .bool true]) (by simp [results, Try.results32, go_sem]; unfold wrap64; omega) rfl ?_
  refine ⟨p, m, R, _, (fun k => (P k ∨ w2.heap.size ≤ k) ∧ k < w3.heap.size), _, s, rfl, ⟨wo_fit (hWo2.below hB3) hT2, hT2, Kd.N_V (Kd.N_bound hN3), fun k hk => hk.2, fun hk => ?_, fun hk => ?_, hod⟩, hgF, .inl ⟨rfl, rfl⟩, fun k hk => .inl hk, fun k hk => hk.1.imp id (fun h => .inr (by omega)), by omega⟩
  · rcases hk.1 with z | z
    · exact h.pm z
    · have := h.wo.ml; omega
  · rcases hk.1 with z | z
    · exact h.pp z
    · have := h.wo.pl; omega
end Go.Proofs.Ytacacigpendneaa.QV
/- hayloftlaw10.step: all are taken. -/
namespace Go.Proofs.Ytacacigpendneaa.QV
open Go.RowKit Go.Proofs.YtacacigpendneaaW.PrintWords Go.Proofs.Ytacacigpendneaa.Mp Go.Proofs.Ytacacigpendneaa.Seq Go.Shelf
set_option linter.unusedVariables false
set_option linter.unusedSimpArgs false
set_option maxRecDepth 100000
theorem told_nil : IsTold (fun _ => none) [] := ⟨List.Pairwise.nil, fun x hx => (by cases hx), fun k hk h => (by cases h)⟩
set_option maxHeartbeats 2000000 in
theorem step5 (x : Ver) (a : Nm) (E : Int) (A2 : Option Addr) (c2 : Nat) (W : World) (p m : Nat) (R : Nat → Prop) (F : Nm → Option Ver) (P P0 : Nat → Prop) (A : Option Addr) (c : Nat) (r : List Ver) (h : St W p m R F P (.slice A r.length c) r) (hn : r.length + 2 < 2932031007402) :
    Calls Try.prog 32 #[.pointer (some ⟨p, 0, none⟩), .slice A r.length c, .agg #[.int .i64 5, .int .u64 x.f0.f0, .int .u32 x.f0.f1, .slice A2 x.f1.length c2, .int .u64 x.f2, .int .u64 a.f0, .int .u32 a.f1, .int .u64 E]] W (Stepped W p m R P P0 r.length) := by
  have hrw := h.row
  have hB0 := below_alloc (Below.refl W.heap.size W) (.cells #[.int .i64 5, .int .u64 x.f0.f0, .int .u32 x.f0.f1, .slice A2 x.f1.length c2, .int .u64 x.f2, .int .u64 a.f0, .int .u32 a.f1, .int .u64 E] 66)
  have hx0 := blk_new W (.cells #[.int .i64 5, .int .u64 x.f0.f0, .int .u32 x.f0.f1, .slice A2 x.f1.length c2, .int .u64 x.f2, .int .u64 a.f0, .int .u32 a.f1, .int .u64 E] 66)
  go_enter Try.func32, Try.ntmps32
  go_wp2_with fail
  generalize W.alloc (.cells #[.int .i64 5, .int .u64 x.f0.f0, .int .u32 x.f0.f1, .slice A2 x.f1.length c2, .int .u64 x.f2, .int .u64 a.f0, .int .u32 a.f1, .int .u64 E] 66) = W0 at hB0 hx0 ⊢
  refine (take_any W0 p m r.length R F r (h.wo.below hB0) h.told (by omega) (by omega)).mono ?_
  rintro e w2 ⟨v, rfl, hS, hWo2, hg2⟩
  obtain ⟨A5, c5, rfl⟩ := Kd.R_slice (Kd.S_R hS)
  have hg := grown_of hB0 hg2
  have hV2 := Kd.V_step h.ref (fun k hk hlt => hg.block k hlt (by intro e; injection e with e; exact h.pm (e ▸ hk)))
  obtain ⟨_, hVc, hVC⟩ := Kd.V_reads' hV2
  obtain ⟨_, hS3c, hS3C⟩ := Kd.S_reads' hS
  go_wp2_with fail
  refine (same_two r (by omega) (fun y hy => by have := hrw y hy; omega) A5 A c5 c w2 hS3C hS3c hVC hVc).mono ?_
  rintro e w4 ⟨rfl, hB4⟩
  have hWo4 := hWo2.below hB4
  go_wp2_with fail
  refine (len_any w4 p m 0 R _ hWo4).mono ?_
  rintro e w4' ⟨rfl, k, rfl, hkn, hmany⟩
  obtain rfl : k = 0 := by omega
  go_wp2_with fail
  refine bodyPost_ret (v := .tuple #[.pointer (some ⟨p, 0, none⟩), .slice none 0 0, .bool true]) (by simp [results, Try.results32, go_sem]; try rfl) rfl ?_
  have hgF := grown_below hg hB4
  exact ⟨p, m, R, _, P, _, [], rfl, ⟨hWo4, told_nil, Kd.V_nil _ _ _ _ _, fun k hk => Nat.lt_of_lt_of_le (h.pl k hk) hgF.size, h.pm, h.pp, fun x hx => (by cases hx)⟩, hgF, .inl ⟨rfl, rfl⟩, fun k hk => .inl hk, fun k hk => .inl hk, Nat.zero_le _⟩
end Go.Proofs.Ytacacigpendneaa.QV
/- hayloftlaw10.step: all that there is. -/
namespace Go.Proofs.Ytacacigpendneaa.QV
open Go.RowKit Go.Proofs.YtacacigpendneaaW.PrintWords Go.Proofs.Ytacacigpendneaa.Mp Go.Proofs.Ytacacigpendneaa.Seq Go.Shelf
set_option linter.unusedVariables false
set_option linter.unusedSimpArgs false
set_option maxRecDepth 100000
set_option maxHeartbeats 2000000 in
theorem step6 (kd : Int) (x : Ver) (a : Nm) (E : Int) (A2 : Option Addr) (c2 : Nat) (W : World) (p m : Nat) (R : Nat → Prop) (F : Nm → Option Ver) (P P0 : Nat → Prop) (A : Option Addr) (c : Nat) (r : List Ver) (h : St W p m R F P (.slice A r.length c) r) (hn : r.length + 2 < 2932031007402) (d0 : (kd == 0) = false) (d1 : (kd == 1) = false) (d2 : (kd == 2) = false) (d3 : (kd == 3) = false) (d4 : (kd == 4) = false) (d5 : (kd == 5) = false) (d7 : (kd == 7) = false) :
    Calls Try.prog 32 #[.pointer (some ⟨p, 0, none⟩), .slice A r.length c, .agg #[.int .i64 kd, .int .u64 x.f0.f0, .int .u32 x.f0.f1, .slice A2 x.f1.length c2, .int .u64 x.f2, .int .u64 a.f0, .int .u32 a.f1, .int .u64 E]] W (Stepped W p m R P P0 r.length) := by
  have hrw := h.row
  have hB0 := below_alloc (Below.refl W.heap.size W) (.cells #[.int .i64 kd, .int .u64 x.f0.f0, .int .u32 x.f0.f1, .slice A2 x.f1.length c2, .int .u64 x.f2, .int .u64 a.f0, .int .u32 a.f1, .int .u64 E] 66)
  have hx0 := blk_new W (.cells #[.int .i64 kd, .int .u64 x.f0.f0, .int .u32 x.f0.f1, .slice A2 x.f1.length c2, .int .u64 x.f2, .int .u64 a.f0, .int .u32 a.f1, .int .u64 E] 66)
  go_enter Try.func32, Try.ntmps32
  go_wp2_with fail
  generalize W.alloc (.cells #[.int .i64 kd, .int .u64 x.f0.f0, .int .u32 x.f0.f1, .slice A2 x.f1.length c2, .int .u64 x.f2, .int .u64 a.f0, .int .u32 a.f1, .int .u64 E] 66) = W0 at hB0 hx0 ⊢
  obtain ⟨w1, hw1, hB1, hs1, hseq⟩ := all_gives W0 p m r.length R F r (fun _ => False) (h.wo.below hB0) h.told (by omega) (fun _ _ h => h)
  refine (all_any p W0).mono ?_
  rintro e w1' ⟨rfl, rfl⟩
  rw [← hw1]
  clear hw1
  go_wp2_with fail
  refine (gone_any _ _ _ _ w1 w1 (fun args w => by kernel_rfl) hseq (Below.refl _ _) (by omega)).mono ?_
  rintro e w2 ⟨v, rfl, hS, hB2⟩
  obtain ⟨A5, c5, rfl⟩ := Kd.R_slice (Kd.S_R hS)
  have hB01 := btr' hB0 hB1
  have hB02 := btr' hB01 hB2
  have h2 := h.below hB02
  have hz1 := hB01.size
  go_wp2_with fail
  refine (len_any w2 p m r.length R F h2.wo).mono ?_
  rintro e w2' ⟨rfl, k, rfl, hkn, hmany⟩
  obtain rfl := many_told h.told hmany
  obtain ⟨_, hVc, hVC⟩ := Kd.V_reads' h2.ref
  obtain ⟨_, hS3c, hS3C⟩ := Kd.S_reads' hS
  go_wp2_with fail
  refine (same_two r (by omega) (fun y hy => by have := hrw y hy; omega) A5 A c5 c _ hS3C hS3c hVC hVc).mono ?_
  rintro e w4 ⟨rfl, hB4⟩
  have hS4 := Kd.S_below hS hB4
  have hB04 := btr' hB02 hB4
  go_wp2_with fail
  refine (spoilt_any _ A5 c5 r w4 (spIn_S hS4) (by omega)).mono ?_
  rintro e w5 ⟨rfl, hsp⟩
  go_wp2_with fail
  refine bodyPost_ret (v := .tuple #[.pointer (some ⟨p, 0, none⟩), .slice A r.length c, .bool true]) (by simp [results, Try.results32, go_sem]; try rfl) rfl ?_
  have hB45 : Below w1.heap.size w4 w5 := hsp.below (fun i hi => hi.1)
  exact stepped_same h (hB04.trans (hB45.mono hz1)) rfl
end Go.Proofs.Ytacacigpendneaa.QV
/- hayloftlaw10.step: a clone. -/
namespace Go.Proofs.Ytacacigpendneaa.QV
open Go.RowKit Go.Proofs.YtacacigpendneaaW.PrintWords Go.Proofs.Ytacacigpendneaa.Mp Go.Proofs.Ytacacigpendneaa.Seq Go.Shelf
set_option linter.unusedVariables false
set_option linter.unusedSimpArgs false
set_option maxRecDepth 100000
set_option maxHeartbeats 2000000 in
theorem step7 (x : Ver) (a : Nm) (E : Int) (A2 : Option Addr) (c2 : Nat) (W : World) (p m : Nat) (R : Nat → Prop) (F : Nm → Option Ver) (P P0 : Nat → Prop) (A : Option Addr) (c : Nat) (r : List Ver) (h : St W p m R F P (.slice A r.length c) r) (hn : r.length + 2 < 2932031007402) :
    Calls Try.prog 32 #[.pointer (some ⟨p, 0, none⟩), .slice A r.length c, .agg #[.int .i64 7, .int .u64 x.f0.f0, .int .u32 x.f0.f1, .slice A2 x.f1.length c2, .int .u64 x.f2, .int .u64 a.f0, .int .u32 a.f1, .int .u64 E]] W (Stepped W p m R P P0 r.length) := by
  have hrw := h.row
  have hB0 := below_alloc (Below.refl W.heap.size W) (.cells #[.int .i64 7, .int .u64 x.f0.f0, .int .u32 x.f0.f1, .slice A2 x.f1.length c2, .int .u64 x.f2, .int .u64 a.f0, .int .u32 a.f1, .int .u64 E] 66)
  have hx0 := blk_new W (.cells #[.int .i64 7, .int .u64 x.f0.f0, .int .u32 x.f0.f1, .slice A2 x.f1.length c2, .int .u64 x.f2, .int .u64 a.f0, .int .u32 a.f1, .int .u64 E] 66)
  go_enter Try.func32, Try.ntmps32
  go_wp2_with fail
  generalize W.alloc (.cells #[.int .i64 7, .int .u64 x.f0.f0, .int .u32 x.f0.f1, .slice A2 x.f1.length c2, .int .u64 x.f2, .int .u64 a.f0, .int .u32 a.f1, .int .u64 E] 66) = W0 at hB0 hx0 ⊢
  refine (clone_wos W0 p m r.length R F (h.wo.below hB0)).mono ?_
  rintro e w2 ⟨p', m', rfl, hp', hm', hWo2, hB2⟩
  have hB02 := btr' hB0 hB2
  have h2 := h.below hB02
  have hz0 := hB0.size
  go_wp2_with fail
  refine bodyPost_ret (v := .tuple #[.pointer (some ⟨p', 0, none⟩), .slice A r.length c, .bool true]) (by simp [results, Try.results32, go_sem]; try rfl) rfl ?_
  exact ⟨p', m', R, F, P, _, r, rfl, ⟨hWo2, h.told, h2.ref, h2.pl, fun hk => by have := h.pl _ hk; omega, fun hk => by have := h.pl _ hk; omega, h.od⟩, below_grown hB02 m, .inr ⟨by omega, by omega⟩, fun k hk => .inl hk, fun k hk => .inl hk, by omega⟩
end Go.Proofs.Ytacacigpendneaa.QV
/- hayloftlaw10.step, run: every call of a script is answered as the document says. -/
namespace Go.Proofs.Ytacacigpendneaa.QV
open Go.RowKit Go.Proofs.YtacacigpendneaaW.PrintWords Go.Proofs.Ytacacigpendneaa.Mp Go.Proofs.Ytacacigpendneaa.Seq Go.Shelf
set_option linter.unusedVariables false
set_option linter.unusedSimpArgs false
set_option maxRecDepth 100000
theorem step_any (o : OpT) (ho : OpOk o) (A2 : Option Addr) (c2 : Nat) (W : World) (p m : Nat) (R : Nat → Prop) (F : Nm → Option Ver) (P P0 : Nat → Prop) (A : Option Addr) (c : Nat) (r : List Ver) (h : St W p m R F P (.slice A r.length c) r) (hn : r.length + 2 < 2932031007402)
    (hle : o.2.1.f1.length ≤ c2) (hF2 : Kd.F kS W P0 A2 o.2.1.f1.length o.2.1.f1) (hP0 : ∀ k, P0 k → k < W.heap.size) (hPm : ¬ P0 m) (hPp : ¬ P0 p) :
    Calls Try.prog 32 #[.pointer (some ⟨p, 0, none⟩), .slice A r.length c, .agg #[.int .i64 o.1, .int .u64 o.2.1.f0.f0, .int .u32 o.2.1.f0.f1, .slice A2 o.2.1.f1.length c2, .int .u64 o.2.1.f2, .int .u64 o.2.2.1.f0, .int .u32 o.2.2.1.f1, .int .u64 o.2.2.2]] W (Stepped W p m R P P0 r.length) := by
  obtain ⟨kd, x, a, E⟩ := o
  obtain ⟨h1, h2, h3, h4, h5⟩ := ho
  simp only at h1 h2 h3 h4 h5 hle hF2 ⊢
  by_cases k0 : kd = 0
  · subst k0; exact step0 x a E A2 c2 W p m R F P P0 A c r h hn h1 hle hF2 h2 hP0 hPm hPp
  by_cases k1 : kd = 1
  · subst k1; exact step1 x a E A2 c2 W p m R F P P0 A c r h hn h4
  by_cases k2 : kd = 2
  · subst k2; exact step2 x a E A2 c2 W p m R F P P0 A c r h hn h4
  by_cases k3 : kd = 3
  · subst k3; exact step3 x a E A2 c2 W p m R F P P0 A c r h hn
  by_cases k4 : kd = 4
  · subst k4; exact step4 x a E A2 c2 W p m R F P P0 A c r h hn
  by_cases k5 : kd = 5
  · subst k5; exact step5 x a E A2 c2 W p m R F P P0 A c r h hn
  by_cases k7 : kd = 7
  · subst k7; exact step7 x a E A2 c2 W p m R F P P0 A c r h hn
  exact step6 kd x a E A2 c2 W p m R F P P0 A c r h hn (beq_eq_false_iff_ne.2 k0) (beq_eq_false_iff_ne.2 k1) (beq_eq_false_iff_ne.2 k2) (beq_eq_false_iff_ne.2 k3) (beq_eq_false_iff_ne.2 k4) (beq_eq_false_iff_ne.2 k5) (beq_eq_false_iff_ne.2 k7)
abbrev zOp : OpT := (0, z29, z25, 0)
theorem op_get {w : World} {A : Option Addr} {n : Nat} {ops : List OpT} (h : kOp.C w A n ops) (i : Nat) (hi : i < n) : ∃ ad A2 c2, A = some ad ∧ w.cell? (ad.add (i * 8)) = some (.int .i64 (ops.getD i zOp).1) ∧
    w.cell? ⟨(ad.add (i * 8)).block, (ad.add (i * 8)).off + 1, none⟩ = some (.int .u64 (ops.getD i zOp).2.1.f0.f0) ∧ w.cell? ⟨(ad.add (i * 8)).block, (ad.add (i * 8)).off + 2, none⟩ = some (.int .u32 (ops.getD i zOp).2.1.f0.f1) ∧
    w.cell? ⟨(ad.add (i * 8)).block, (ad.add (i * 8)).off + 3, none⟩ = some (.slice A2 (ops.getD i zOp).2.1.f1.length c2) ∧ w.cell? ⟨(ad.add (i * 8)).block, (ad.add (i * 8)).off + 4, none⟩ = some (.int .u64 (ops.getD i zOp).2.1.f2) ∧
    w.cell? ⟨(ad.add (i * 8)).block, (ad.add (i * 8)).off + 5, none⟩ = some (.int .u64 (ops.getD i zOp).2.2.1.f0) ∧ w.cell? ⟨(ad.add (i * 8)).block, (ad.add (i * 8)).off + 6, none⟩ = some (.int .u32 (ops.getD i zOp).2.2.1.f1) ∧
    w.cell? ⟨(ad.add (i * 8)).block, (ad.add (i * 8)).off + 7, none⟩ = some (.int .u64 (ops.getD i zOp).2.2.2) ∧ (ops.getD i zOp).2.1.f1.length ≤ c2 ∧ kS.C w A2 (ops.getD i zOp).2.1.f1.length (ops.getD i zOp).2.1.f1 := by
  obtain ⟨ad, c, e, _, hK, hc0⟩ := Kd.C_get h zOp (i : Int) (by omega) (by omega)
  have hc : ∀ j u, c[j]? = some u → w.cell? (ad.add (i * 8 + j)) = some u := hc0
  rw [Int.toNat_natCast] at hK
  obtain ⟨A2, c2, rfl, l2, g2⟩ := op_open hK
  exact ⟨ad, A2, c2, e, hc 0 _ rfl, by rw [← add_field _ _ 1 (by omega)]; exact hc 1 _ rfl, by rw [← add_field _ _ 2 (by omega)]; exact hc 2 _ rfl, by rw [← add_field _ _ 3 (by omega)]; exact hc 3 _ rfl, by rw [← add_field _ _ 4 (by omega)]; exact hc 4 _ rfl,
    by rw [← add_field _ _ 5 (by omega)]; exact hc 5 _ rfl, by rw [← add_field _ _ 6 (by omega)]; exact hc 6 _ rfl, by rw [← add_field _ _ 7 (by omega)]; exact hc 7 _ rfl, l2, g2⟩
/-- The rows of what came in, in whatever world that keeps it. -/
theorem row_F {w0 W : World} (hb : Below w0.heap.size w0 W) {A : Option Addr} {n : Nat} {xs : List Val} (h : kS.C w0 A n xs) : Kd.F kS W (fun k => k < w0.heap.size) A n xs := fun W' hW =>
  k69_heap.C (fun k hk => (hW k hk (Nat.lt_of_lt_of_le hk hb.size)).trans (hb.block k hk)) h
end Go.Proofs.Ytacacigpendneaa.QV
/- WosAll, walked. -/
namespace Go.Proofs.Ytacacigpendneaa.QV
open Go.RowKit Go.Proofs.YtacacigpendneaaW.PrintWords Go.Proofs.Ytacacigpendneaa.Mp Go.Proofs.Ytacacigpendneaa.Seq Go.Shelf
set_option linter.unusedVariables false
set_option linter.unusedSimpArgs false
set_option maxRecDepth 100000
theorem St.first {W : World} {p m : Nat} (h : Wo W p m 0 (fun _ => False) (fun _ => none)) : St W p m (fun _ => False) (fun _ => none) (fun _ => False) (.slice none ([] : List Ver).length 0) [] :=
  ⟨h, told_nil, Kd.V_nil _ _ _ _ _, fun _ h => h.elim, fun h => h, fun h => h, fun x hx => (by cases hx)⟩
end Go.Proofs.Ytacacigpendneaa.QV
/- hayloftlaw10.run: what it leaves, and of which blocks. -/
namespace Go.Proofs.Ytacacigpendneaa.QV
open Go.RowKit Go.Proofs.YtacacigpendneaaW.PrintWords Go.Proofs.Ytacacigpendneaa.Mp Go.Proofs.Ytacacigpendneaa.Seq Go.Shelf
set_option linter.unusedVariables false
set_option linter.unusedSimpArgs false
set_option maxRecDepth 100000
/-- What a run leaves behind, with its blocks. -/
def RanF (w0 W : World) (p m : Nat) (R P : Nat → Prop) (N : Nat) (e : Ending) (W' : World) : Prop := ∃ p' m' R' F' P' A' c' r', e = .returned (.tuple #[.pointer (some ⟨p', 0, none⟩), .slice A' (List.length r') c', .bool true]) ∧ St W' p' m' R' F' P' (.slice A' r'.length c') r' ∧ Below w0.heap.size w0 W' ∧ w0.heap.size ≤ m' ∧ w0.heap.size ≤ p' ∧ r'.length ≤ N ∧
  (∀ j, R' j → R j ∨ W.heap.size ≤ j) ∧ (∀ j, P' j → P j ∨ j < w0.heap.size ∨ W.heap.size ≤ j) ∧ W.grownBy W' (some m) ∧ (p' = p ∨ W.heap.size ≤ p') ∧ (m' = m ∨ W.heap.size ≤ m')
set_option maxHeartbeats 2000000 in
theorem run_full (w0 : World) (As : Option Addr) (cs : Nat) (ops : List OpT) (hops : kOp.C w0 As ops.length ops) (hcs : ops.length ≤ cs) (hok : ∀ o ∈ ops, OpOk o) (W : World) (hb : Below w0.heap.size w0 W) (p m : Nat) (R : Nat → Prop) (F : Nm → Option Ver) (P : Nat → Prop) (A : Option Addr) (c : Nat) (r : List Ver)
    (h : St W p m R F P (.slice A r.length c) r) (hm : w0.heap.size ≤ m) (hp : w0.heap.size ≤ p) (hn : r.length + ops.length + 3 < 2932031007402) :
    Calls Try.prog 27 #[.pointer (some ⟨p, 0, none⟩), .slice A r.length c, .slice As ops.length cs] W (RanF w0 W p m R P (r.length + ops.length + 1)) := by
  go_enter Try.func27, Try.ntmps27
  go_wp2_with fail
  go_loopw [0, 1, 14] (fun v0 v1 i wr => ∃ k : Nat, k ≤ ops.length ∧ i = .int .i64 k ∧ ∃ p' m' R' F' P' A' c' r', v0 = .pointer (some ⟨p', 0, none⟩) ∧ v1 = .slice A' (List.length r') c' ∧ St wr p' m' R' F' P' (.slice A' r'.length c') r' ∧ Below w0.heap.size w0 wr ∧ w0.heap.size ≤ m' ∧ w0.heap.size ≤ p' ∧ r'.length ≤ r.length + k ∧ (∀ j, R' j → R j ∨ W.heap.size ≤ j) ∧ (∀ j, P' j → P j ∨ j < w0.heap.size ∨ W.heap.size ≤ j) ∧ (p' = p ∨ W.heap.size ≤ p') ∧ (m' = m ∨ W.heap.size ≤ m') ∧ W.grownBy wr (some m))
    (fun _ _ i _ => ops.length - (intOf i).toNat)
  case atStart => exact ⟨0, Nat.zero_le _, rfl, p, m, R, F, P, A, c, r, rfl, rfl, h, hb, hm, hp, Nat.le_refl _, fun _ h => .inl h, fun _ h => .inl h, .inl rfl, .inl rfl, ⟨rfl, rfl, rfl, Nat.le_refl _, fun _ _ _ => rfl⟩⟩
  case round =>
    obtain ⟨k, hk, rfl, p', m', R', F', P', A', c', r', rfl, rfl, h', hb', hm', hp', hr', hR', hP', hpp, hmm, hgW⟩ := hrel
    have hWs := hgW.size
    by_cases hlt : k < ops.length
    · obtain ⟨ad, A2, c2, rfl, y0, y1, y2, y3, y4, y5, y6, y7, hle, hC⟩ := op_get hops k hlt
      have hmem : ops.getD k zOp ∈ ops := getD_mem _ hlt
      have ho := hok _ hmem
      clear hmem
      generalize ops.getD k zOp = o at *
      replace y0 := pw_cell_below hb' y0
      replace y1 := pw_cell_below hb' y1
      replace y2 := pw_cell_below hb' y2
      replace y3 := pw_cell_below hb' y3
      replace y4 := pw_cell_below hb' y4
      replace y5 := pw_cell_below hb' y5
      replace y6 := pw_cell_below hb' y6
      replace y7 := pw_cell_below hb' y7
      go_wp2_with fail
      have hb2 : Below wr.heap.size wr (wr.alloc (.cells #[.int .i64 o.1, .int .u64 o.2.1.f0.f0, .int .u32 o.2.1.f0.f1, .slice A2 o.2.1.f1.length c2, .int .u64 o.2.1.f2, .int .u64 o.2.2.1.f0, .int .u32 o.2.2.1.f1, .int .u64 o.2.2.2] 66)) := below_alloc (Below.refl _ _) _
      generalize wr.alloc (.cells #[.int .i64 o.1, .int .u64 o.2.1.f0.f0, .int .u32 o.2.1.f0.f1, .slice A2 o.2.1.f1.length c2, .int .u64 o.2.1.f2, .int .u64 o.2.2.1.f0, .int .u32 o.2.2.1.f1, .int .u64 o.2.2.2] 66) = W2 at hb2 ⊢
      have hB2 := hb'.trans (hb2.mono hb'.size)
      have hzs := hB2.size
      have hz2s := hb2.size
      refine (step_any o ho A2 c2 W2 p' m' R' F' P' (fun k => k < w0.heap.size) A' c' r' (h'.below hb2) (by omega) hle (row_F hB2 hC) (fun k hk => by omega) (by omega) (by omega)).mono ?_
      rintro e W3 ⟨p3, m3, R3, F3, P3, rv3, r3, rfl, h3, hg3, hpm3, hR3, hP3, hl3⟩
      obtain ⟨A3, c3, rfl⟩ := Kd.V_slice h3.ref
      have hB3 : Below w0.heap.size w0 W3 := hB2.grown hg3 hB2.size (fun k e => by cases e; exact hm')
      go_wp2_with fail
      go_roundw
      case rel =>
        refine ⟨k + 1, by omega, by go_num, p3, m3, R3, F3, P3, A3, c3, r3, rfl, rfl, h3, hB3, ?_, ?_, by omega, fun j hj => ?_, fun j hj => ?_, ?_, ?_, (grown_below hgW hb2).andThen hg3 (fun j hj => ?_)⟩
        · rcases hpm3 with ⟨z1, z2⟩ | ⟨z1, z2⟩ <;> omega
        · rcases hpm3 with ⟨z1, z2⟩ | ⟨z1, z2⟩ <;> omega
        · rcases hR3 j hj with z | z
          · exact hR' j z
          · exact .inr (by omega)
        · rcases hP3 j hj with z | z | z
          · exact hP' j z
          · exact .inr (.inl z)
          · exact .inr (.inr (by omega))
        · rcases hpm3 with ⟨z1, z2⟩ | ⟨z1, z2⟩
          · rcases hpp with z | z
            · exact .inl (by omega)
            · exact .inr (by omega)
          · exact .inr (by omega)
        · rcases hpm3 with ⟨z1, z2⟩ | ⟨z1, z2⟩
          · rcases hmm with z | z
            · exact .inl (by omega)
            · exact .inr (by omega)
          · exact .inr (by omega)
        · rcases hmm with z | z
          · exact .inr (by rw [← hj, z])
          · injection hj with hj; exact .inl (by omega)
      case measure => simp [intOf]; omega
    · obtain rfl : k = ops.length := by omega
      go_wp2_with fail
      have hzs := hb'.size
      refine (step_any (6, ⟨⟨0, 0⟩, [], 0⟩, ⟨0, 0⟩, 0) ⟨⟨by decide, by decide⟩, by decide, by decide, ⟨by decide, by decide⟩, by decide⟩ none 0 wr p' m' R' F' P' (fun _ => False) A' c' r' h' (by omega) (Nat.le_refl _) (fun W' _ => Kd.C_nil _ _) (fun _ h => h.elim) (fun h => h) (fun h => h)).mono ?_
      rintro e W3 ⟨p3, m3, R3, F3, P3, rv3, r3, rfl, h3, hg3, hpm3, hR3, hP3, hl3⟩
      obtain ⟨A3, c3, rfl⟩ := Kd.V_slice h3.ref
      have hB3 : Below w0.heap.size w0 W3 := hb'.grown hg3 hb'.size (fun k e => by cases e; exact hm')
      go_wp2_with fail
      refine bodyPost_ret (v := .tuple #[.pointer (some ⟨p3, 0, none⟩), .slice A3 r3.length c3, .bool true]) (by simp [results, Try.results27, go_sem]; try rfl) rfl ?_
      refine ⟨p3, m3, R3, F3, P3, A3, c3, r3, rfl, h3, hB3, ?_, ?_, by omega, fun j hj => ?_, fun j hj => ?_, hgW.andThen hg3 (fun j hj => ?_), ?_, ?_⟩
      · rcases hpm3 with ⟨z1, z2⟩ | ⟨z1, z2⟩ <;> omega
      · rcases hpm3 with ⟨z1, z2⟩ | ⟨z1, z2⟩ <;> omega
      · rcases hR3 j hj with z | z
        · exact hR' j z
        · exact .inr (by omega)
      · rcases hP3 j hj with z | z | z
        · exact hP' j z
        · exact z.elim
        · exact .inr (.inr (by omega))
      · rcases hmm with z | z
        · exact .inr (by rw [← hj, z])
        · injection hj with hj; exact .inl (by omega)
      · rcases hpm3 with ⟨z1, z2⟩ | ⟨z1, z2⟩
        · rcases hpp with z | z
          · exact .inl (by omega)
          · exact .inr (by omega)
        · exact .inr (by omega)
      · rcases hpm3 with ⟨z1, z2⟩ | ⟨z1, z2⟩
        · rcases hmm with z | z
          · exact .inl (by omega)
          · exact .inr (by omega)
        · exact .inr (by omega)
end Go.Proofs.Ytacacigpendneaa.QV
/- WosPurges, walked. -/
namespace Go.Proofs.Ytacacigpendneaa.QV
open Go.RowKit Go.Proofs.YtacacigpendneaaW.PrintWords Go.Proofs.Ytacacigpendneaa.Mp Go.Proofs.Ytacacigpendneaa.Seq Go.Shelf
set_option linter.unusedVariables false
set_option linter.unusedSimpArgs false
set_option maxRecDepth 100000
end Go.Proofs.Ytacacigpendneaa.QV
/- WosTakes, walked. -/
namespace Go.Proofs.Ytacacigpendneaa.QV
open Go.RowKit Go.Proofs.YtacacigpendneaaW.PrintWords Go.Proofs.Ytacacigpendneaa.Mp Go.Proofs.Ytacacigpendneaa.Seq Go.Shelf
set_option linter.unusedVariables false
set_option linter.unusedSimpArgs false
set_option maxRecDepth 100000
end Go.Proofs.Ytacacigpendneaa.QV
/- WosRange, walked. -/
namespace Go.Proofs.Ytacacigpendneaa.QV
open Go.RowKit Go.Proofs.YtacacigpendneaaW.PrintWords Go.Proofs.Ytacacigpendneaa.Mp Go.Proofs.Ytacacigpendneaa.Seq Go.Shelf Go.Proofs.Ytacacigpendneaa.Op
set_option linter.unusedVariables false
set_option linter.unusedSimpArgs false
attribute [local go_sem] Oper.semAt_some
set_option maxRecDepth 100000
theorem erR_len (r : List Ver) (a : Nm) (E : Int) : (erR r a E).1.length ≤ r.length + 1 := by
  unfold erR
  split
  · show r.length ≤ _; omega
  · split
    · show r.length ≤ _; omega
    · split
      · exact putR_len _ r false
      · show r.length ≤ _; omega
theorem erase_gen (a : Nm) (E : Int) (w : World) (p m n : Nat) (R : Nat → Prop) (F : Nm → Option Ver) (r : List Ver) (h : Wo w p m n R F) (hT : IsTold F r) (ha : Nok a) (hn : n < maxLen) :
    Calls Try.prog 26 #[.pointer (some ⟨p, 0, none⟩), .agg #[.int .u64 a.f0, .int .u32 a.f1], .int .u64 E] w fun e w' => ∃ z n' F', e = .returned (.int .i64 z) ∧ Wo w' p m n' R F' ∧ IsTold F' (erR r a E).1 ∧ w.grownBy w' (some m) := by
  have hfo : firstOf r a = F a := hT.first h.own a ha
  cases hF : F a with
  | none =>
    have he : erR r a E = (r, 102) := by unfold erR; rw [hfo, hF]
    refine (erase_none a E w p m n R F h ha hF).mono ?_
    rintro e w' ⟨rfl, hB⟩
    rw [he]
    exact ⟨_, n, F, rfl, h.below hB, hT, below_grown hB m⟩
  | some y =>
    by_cases hE : E ≤ a.f0
    · have he : erR r a E = (r, 101) := by unfold erR; rw [hfo, hF]; exact if_pos hE
      refine (erase_epoch a E w p m n R F h ha y hF hE).mono ?_
      rintro e w' ⟨rfl, hB⟩
      rw [he]
      exact ⟨_, n, F, rfl, h.below hB, hT, below_grown hB m⟩
    · by_cases hd : y.f2 = 0
      · have he : erR r a E = (putR false r ⟨y.f0, y.f1, E⟩, 0) := by unfold erR; rw [hfo, hF]; show (if E ≤ a.f0 then _ else _) = _; rw [if_neg hE, if_pos hd]
        have hy0 : y.f0 = a := h.own a y hF
        refine (erase_ok a E w p m n R F h ha y hF (by omega) hd hn).mono ?_
        rintro e w' ⟨rfl, hWo, hg⟩
        rw [he]
        refine ⟨_, _, _, rfl, hWo, ?_, hg⟩
        have := put_told hT h.own ⟨y.f0, y.f1, E⟩ (by show Nok y.f0; rw [hy0]; exact ha)
        rw [← hy0]
        exact this
      · have he : erR r a E = (r, 103) := by unfold erR; rw [hfo, hF]; show (if E ≤ a.f0 then _ else _) = _; rw [if_neg hE, if_neg hd]
        refine (erase_erased a E w p m n R F h ha y hF (by omega) hd).mono ?_
        rintro e w' ⟨rfl, hB⟩
        rw [he]
        exact ⟨_, n, F, rfl, h.below hB, hT, below_grown hB m⟩
theorem atL_nok {r : List Ver} {F : Nm → Option Ver} (h : IsTold F r) (E : Int) : ∀ x ∈ atL r E, Nok x.f0 := fun x hx => by
  unfold atL at hx
  obtain ⟨y, hy, rfl⟩ := List.mem_map.1 hx
  rw [asE_f0]
  exact (h.2.1 y (List.mem_filter.1 hy).1).1
theorem prefix_get {pre l : List Ver} {x : Ver} (h : (pre ++ [x]) <+: l) : pre.length < l.length ∧ l.getD pre.length z29 = x ∧ x ∈ l := by
  obtain ⟨t, rfl⟩ := h
  refine ⟨by simp, ?_, by simp⟩
  rw [List.getD_eq_getElem?_getD, List.append_assoc, List.getElem?_append_right (Nat.le_refl _)]
  simp
/-- The frame as a letter. -/
theorem wpIn_with {F : Fence} {n : Nat} {P : Program} {c : Code} {Q : Exit → Act → World → Prop} {a : Act} {w : World} (h : ∀ act, act = a → c.wpIn F n P Q act w) : c.wpIn F n P Q a w := h a rfl
set_option maxHeartbeats 4000000 in
theorem walkRange (As : Option Addr) (cs : Nat) (ops : List OpT) (E : Int) (w : World) (hops : kOp.C w As ops.length ops) (hcs : ops.length ≤ cs) (hok : ∀ o ∈ ops, OpOk o) (hn : ops.length * 80 ≤ 140737488351232) :
    Calls Try.prog 8 #[.slice As ops.length cs, .int .u64 E] w fun e w' => e = .returned (.bool true) ∧ Below w.heap.size w w' := by
  refine (callsIn_wide (n := 0)).1 (callsIn_of_wp_marks Try.func8 rfl trivial ?_ rfl)
  simp only [Try.ntmps8, List.size_toArray, List.length_cons, List.length_nil, Nat.reduceAdd, Nat.reduceSub, Array.replicate_succ, Array.replicate_zero, List.push_toArray, List.append_toArray, List.nil_append, List.cons_append]
  have hB0 : Below w.heap.size w ((w.alloc (.cells #[.int .u64 E] 22)).alloc (.cells #[.bool false] 4)) := below_alloc (below_alloc (Below.refl _ _) _) _
  have hx3 : ((w.alloc (.cells #[.int .u64 E] 22)).alloc (.cells #[.bool false] 4)).heap[w.heap.size]? = some (.cells #[.int .u64 E] 22 (0, 0)) := blk_alloc (blk_new w _) _
  have hx4 := blk_new (w.alloc (.cells #[.int .u64 E] 22)) (.cells #[.bool false] 4)
  rw [World.size_alloc] at hx4
  have hs0 : ((w.alloc (.cells #[.int .u64 E] 22)).alloc (.cells #[.bool false] 4)).heap.size = w.heap.size + 2 := by rw [World.size_alloc, World.size_alloc]
  gi_wp2
  generalize (w.alloc (.cells #[.int .u64 E] 22)).alloc (.cells #[.bool false] 4) = w0 at hB0 hx3 hx4 hs0 ⊢
  refine ⟨trivial, rfl, callsIn_wide.2 ((begun_any w0).mono ?_)⟩
  rintro e w1 ⟨p0, m0, rfl, hWo, ⟨hm0, hp0⟩, hB1⟩
  have hB01 := btr' hB0 hB1
  gi_wp2
  have hz1 := hB1.size
  have hz01 := hB01.size
  have hbW : Below w1.heap.size w1 (w1.alloc (.cells #[.pointer (some ⟨p0, 0, none⟩)] 30)) := below_alloc (Below.refl _ _) _
  have hx5 := blk_new w1 (.cells #[.pointer (some ⟨p0, 0, none⟩)] 30)
  have hsW : (w1.alloc (.cells #[.pointer (some ⟨p0, 0, none⟩)] 30)).heap.size = w1.heap.size + 1 := World.size_alloc ..
  generalize w1.alloc (.cells #[.pointer (some ⟨p0, 0, none⟩)] 30) = W1 at hbW hx5 hsW ⊢
  have hBW := btr' hB01 hbW
  have hm0l := hWo.ml
  refine ⟨trivial, rfl, callsIn_wide.2 ((run_full w As cs ops hops hcs hok W1 hBW p0 m0 _ _ _ none 0 [] (St.first (hWo.below hbW)) (by omega) (by omega) (by simp; omega)).mono ?_)⟩
  rintro e w2 ⟨p, m, R, F, P, A, c, r, rfl, h, hB2, hm, hp, hrl, hR, hP, hg2, hpp, hmm⟩
  have hn' : r.length + 2 < 2932031007402 := by simp at hrl; omega
  clear hrl
  have hR : ∀ j, R j → W1.heap.size ≤ j := fun j hj => (hR j hj).resolve_left (fun h => h)
  have hP : ∀ j, P j → j < w.heap.size ∨ W1.heap.size ≤ j := fun j hj => (hP j hj).resolve_left (fun h => h)
  have hrw := h.row
  have hz2 := hg2.size
  have hplw := hWo.pl
  have hx3W : W1.heap[w.heap.size]? = _ := blk_below (blk_below hx3 hB1) hbW
  have hx4W : W1.heap[w.heap.size + 1]? = _ := blk_below (blk_below hx4 hB1) hbW
  have hx32 := blk_grown hx3W hg2 (by intro e; injection e with e; omega)
  have hx42 := blk_grown hx4W hg2 (by intro e; injection e with e; omega)
  have hx52 := blk_grown hx5 hg2 (by intro e; injection e with e; omega)
  have c5 := blk_cell hx52 0
  have f5 := blk_frozen hx52 0
  have hx53 : (w2.setCell ⟨w1.heap.size, 0, none⟩ (.pointer (some ⟨p, 0, none⟩))).heap[w1.heap.size]? = some (.cells #[.pointer (some ⟨p, 0, none⟩)] 30 (0, 0)) := blk_set hx52 0 _
  have hsame : ∀ k, k ≠ w1.heap.size → (w2.setCell ⟨w1.heap.size, 0, none⟩ (.pointer (some ⟨p, 0, none⟩))).heap[k]? = w2.heap[k]? := fun k hk => Below.heap_setCell _ _ _ _ hk
  have hB3 : Below w.heap.size w (w2.setCell ⟨w1.heap.size, 0, none⟩ (.pointer (some ⟨p, 0, none⟩))) := hB2.setCell (p := ⟨w1.heap.size, 0, none⟩) (by show w.heap.size ≤ w1.heap.size; omega) _
  have hs3 : (w2.setCell ⟨w1.heap.size, 0, none⟩ (.pointer (some ⟨p, 0, none⟩))).heap.size = w2.heap.size := World.size_setCell ..
  have hlw := blk_lt hx32
  have hx33 := (hsame w.heap.size (by omega)).trans hx32
  have hx43 := (hsame (w.heap.size + 1) (by omega)).trans hx42
  have q3 := blk_cell hx33 0
  have q5 := blk_cell hx53 0
  gi_wp2
  generalize w2.setCell ⟨w1.heap.size, 0, none⟩ (.pointer (some ⟨p, 0, none⟩)) = w3 at hx53 hsame hB3 hs3 hx33 hx43 q3 q5 ⊢
  have hmb : m ≠ w1.heap.size := by rcases hmm with z | z <;> omega
  have hpb : p ≠ w1.heap.size := by rcases hpp with z | z <;> omega
  have h3 : St w3 p m R F P (.slice A r.length c) r := ⟨h.wo.keep (by omega) (hsame p hpb) (hsame m hmb) (fun k hk => hsame k (by have := hR k hk; omega)), h.told, Kd.V_step h.ref (fun k hk _ => hsame k (by have := hP k hk; omega)), fun k hk => by have := h.pl k hk; omega, h.pm, h.pp, h.od⟩
  have hm4 : m ≠ w.heap.size + 1 := by rcases hmm with z | z <;> omega
  have hm3 : m ≠ w.heap.size := by rcases hmm with z | z <;> omega
  clear c5 f5 hx3W hx4W hx32 hx42 hx52 hx5 hg2 h hsame hB2 hx3 hx4 hB0 hB1 hbW hB01 hBW
  have hml := h3.wo.ml
  have hpl := h3.wo.pl
  have hl3 := blk_lt hx33
  have hs3a : w3.heap.size ≤ w2.heap.size := by omega
  have hs3b : w2.heap.size ≤ w3.heap.size := by omega
  clear hs3
  obtain ⟨w4, hw4, hB4, hs4, hseq4⟩ := at_gives w3 p m r.length R F r E (fun _ => False) h3.wo h3.told (by omega) (fun _ _ h => h) (fun _ h => h.elim)
  refine ⟨trivial, rfl, callsIn_wide.2 ((at_any p E w3).mono ?_)⟩
  rintro e w4' ⟨rfl, rfl⟩
  rw [← hw4]
  clear hw4 hs4
  have hB34 := hB4
  gi_wp2
  refine wpIn_with (fun act hact => ?_)
  rename_i K k
  have REST : ∀ D W, Below w4.heap.size w4 W → W.heap[D]? = some (.deferred (some [])) → w4.heap.size ≤ D → K { act with defers := { target := .collected D, args := #[] } :: act.defers } W := by
    intro D W hbW hD hDw
    refine k _ _ ?_
    subst hact
    have hb3W := btr' hB34 hbW
    have hW := h3.below hb3W
    have g3 := pw_cell_below hb3W q3
    have hzW := hb3W.size
    gi_wp2
    refine ⟨trivial, rfl, callsIn_wide.2 ((refAt_any A c r E P W hW.ref (by omega)).mono ?_)⟩
    rintro e w6 ⟨v6, rfl, hN6, hB6⟩
    obtain ⟨A6, c6, rfl⟩ := Kd.N_slice hN6
    have hz6 := hB6.size
    have hb36 := btr' hb3W hB6
    have hx8 : ((w6.alloc (.cells #[.slice A6 (atL r E).length c6] 38)).alloc (.cells #[.int .i64 0] 3)).heap[w6.heap.size]? = some (.cells #[.slice A6 (atL r E).length c6] 38 (0, 0)) := blk_alloc (blk_new _ _) _
    have hx9 := blk_new (w6.alloc (.cells #[.slice A6 (atL r E).length c6] 38)) (.cells #[.int .i64 0] 3)
    rw [World.size_alloc] at hx9
    have hb67 : Below w6.heap.size w6 ((w6.alloc (.cells #[.slice A6 (atL r E).length c6] 38)).alloc (.cells #[.int .i64 0] 3)) := below_alloc (below_alloc (Below.refl _ _) _) _
    have hs7 : ((w6.alloc (.cells #[.slice A6 (atL r E).length c6] 38)).alloc (.cells #[.int .i64 0] 3)).heap.size = w6.heap.size + 2 := by rw [World.size_alloc, World.size_alloc]
    have hb37 := btr' hb36 hb67
    have g37 := pw_cell_below hb37 q3
    have g57 := pw_cell_below hb37 q5
    gi_wp2
    generalize (w6.alloc (.cells #[.slice A6 (atL r E).length c6] 38)).alloc (.cells #[.int .i64 0] 3) = w7 at hx8 hx9 hb67 hs7 hb37 g37 g57 ⊢
    have hs7a : w7.heap.size ≤ w6.heap.size + 2 := by omega
    have hs7b : w6.heap.size + 2 ≤ w7.heap.size := by omega
    clear hs7 g3
    have h7 := h3.below hb37
    obtain ⟨w8, hw8, hB8, hs8, hseq8⟩ := at_gives w7 p m r.length R F r E (fun i => i = m ∨ i = w6.heap.size + 1) h7.wo h7.told (by omega) (fun j hj hz => by
      rcases hz with hz | hz
      · exact h3.wo.rm (hz ▸ hj)
      · have := h3.wo.rl j hj; have := hb36.size; omega) (fun j hz => by
      have := hb36.size
      rcases hz with hz | hz <;> omega)
    refine ⟨trivial, rfl, callsIn_wide.2 ((at_any p E w7).mono ?_)⟩
    rintro e w8' ⟨rfl, rfl⟩
    rw [← hw8]
    clear hw8 hs8
    have hz8 := hB8.size
    have hb38 := btr' hb37 hB8
    have hz36 := hb36.size
    have h8 := h3.below hb38
    have hx88 := blk_below hx8 hB8
    have hx98 := blk_below hx9 hB8
    have hx38 := blk_below hx33 hb38
    have hx48 := blk_below hx43 hb38
    have hx58 := blk_below hx53 hb38
    have hD8 : w8.heap[D]? = some (.deferred (some [])) := (hB8.block D (by have := blk_lt hD; omega)).trans ((hb67.block D (by have := blk_lt hD; omega)).trans ((hB6.block D (blk_lt hD)).trans hD))
    have hDl := blk_lt hD
    have hB08 := btr' hB3 hb38
    have hVw : Kd.V kVer tVer w8 0 (fun j => (P j ∨ W.heap.size ≤ j) ∧ j < w6.heap.size) (.slice A6 (atL r E).length c6) (atL r E) := Kd.V_step (Kd.N_V (base' := 0) (Kd.N_bound hN6)) (fun j hj hlt => (hB8.block j (by omega)).trans (hb67.block j hlt))
    have hln := atL_len r E
    have hnok := atL_nok h3.told E
    have hrwE := atL_row (l := r) (E := E) (b := 3518437208780) (fun y hy => by have := hrw y hy; omega)
    clear hx8 hx9 hD g37 g57 hN6
    gi_wp2
    refine wpIn_with (fun act hact => ?_)
    generalize atL r E = wl at *
    rename_i K k
    have kk := PLift.up k
    clear k
    refine wpIn_rangeZ (gf := 41) (lb := #[.pointer (some ⟨w7.heap.size, 0, none⟩), .pointer (some ⟨w7.heap.size + 1, 0, none⟩)]) ?hg2 ?eg2 hseq8 (Below.refl _ _) ?hps2 ?hRd2
      (fun pre M A => (M m ∧ M (w6.heap.size + 1)) ∧ A.heap[w6.heap.size + 1]? = some (.cells #[.int .i64 (pre.length : Nat)] 3 (0, 0)) ∧ Kpt (fun i => i = m ∨ i = w6.heap.size + 1) w8 A ∧ ∃ F' L', Wo A p m (List.length L') R F' ∧ IsTold F' L' ∧ L'.length ≤ r.length ∧ (pre ≠ [] → L' = []))
      (fun _ _ _ _ => False) ?hI2 ?hIx2 (fun i => i = m ∨ i = w6.heap.size + 1) ?hM2 ?h02
      (fun x vs a₁ M A => ∃ v vb, vs = #[.agg #[.int .u64 x.f0.f0, .int .u32 x.f0.f1, v, .int .u64 x.f2]] ∧ a₁ = { tmps := (act.tmps.setIfInBounds 36 (.agg #[.int .u64 x.f0.f0, .int .u32 x.f0.f1, v, .int .u64 x.f2])).setIfInBounds 10 (.pointer (some ⟨vb, 0, none⟩)), defers := [] } ∧
        M vb ∧ w8.heap.size ≤ vb ∧ A.heap[vb]? = some (.cells #[.int .u64 x.f0.f0, .int .u32 x.f0.f1, v, .int .u64 x.f2] tVer (0, 0)))
      ?hAx2 ?assign2 ?body2 ?done2 ?stop2
    case hg2 => rw [hact]; rfl
    case eg2 => exact fun args w => by kernel_rfl
    case hps2 =>
      intro A N x vs h
      obtain ⟨v, rfl, _⟩ := h
      rfl
    case hRd2 =>
      intro A B N x vs h hk
      exact RdV.kept h hk
    case hI2 =>
      rintro pre M A B ⟨hMM, h1, h2, F', L', h3', h4, h5, h6⟩ hk
      have hzA := h2.size
      have old : ∀ i, i < w8.heap.size → B.heap[i]? = A.heap[i]? := fun i hi => hk.block i (by omega) (fun h => by omega)
      refine ⟨hMM, (old _ (by omega)).trans h1, h2.trans hk (fun i hi h => h.elim id (fun h => by omega)), F', L', h3'.keep hk.size (old p h8.wo.pl) (old m h8.wo.ml) (fun j hj => old j (h8.wo.rl j hj)), h4, h5, h6⟩
    case hIx2 => exact fun _ _ _ _ _ h _ => h
    case hM2 =>
      intro i hi
      refine ⟨.inl hi, ?_⟩
      have := h8.wo.ml
      rcases hi with h | h <;> omega
    case h02 => exact ⟨⟨.inl rfl, .inr rfl⟩, hx98, Kpt.refl _ _, F, r, h8.wo, h8.told, Nat.le_refl _, fun h => absurd rfl h⟩
    case hAx2 =>
      rintro x vs a₁ M A B ⟨v, vb, e1, e2, h1, h2, h3'⟩ hk
      exact ⟨v, vb, e1, e2, h1, h2, hk.at h3' (fun h => h.2 h1)⟩
    case assign2 =>
      intro l pre x vs N A M hI hpre hrd hM hN
      obtain ⟨v, rfl, hv, hNA⟩ := hrd
      obtain ⟨A1, c1, rfl⟩ := Kd.R_slice hv
      subst hact
      gi_wp2
      have hk : Below A.heap.size A (A.alloc (.cells #[.int .u64 x.f0.f0, .int .u32 x.f0.f1, .slice A1 x.f1.length c1, .int .u64 x.f2] tVer)) := below_alloc (Below.refl _ _) _
      have hzA := hI.2.2.1.size
      refine ⟨fun i => M i ∨ i = A.heap.size, fun i hi => ⟨by rcases hi with h | h; exact .inl h; exact .inr (by omega), by rcases hi with h | h; exact Nat.lt_of_lt_of_le (hM i h).2 hk.size; rw [h]; exact blk_lt (blk_new _ _)⟩, Kpt.of_new _ hk, ?_, _, _, rfl, ?_, .inr rfl, hzA, blk_new _ _⟩
      · obtain ⟨⟨m1, m2⟩, h1, h2, F', L', h3', h4, h5, h6⟩ := hI
        exact ⟨⟨.inl m1, .inl m2⟩, blk_below h1 hk, h2.trans (Kpt.of_new _ hk) (fun _ _ h => h.elim id id), F', L', h3'.below hk, h4, h5, h6⟩
      · simp only [List.setIfInBounds_toArray, List.set_cons_zero, List.set_cons_succ]
    case body2 =>
      intro l pre x vs N A M a₁ hI hpre hrd hax hM hN
      obtain ⟨v, vb, rfl, rfl, hMvb, hvb8, hvb⟩ := hax
      obtain ⟨vv, hvv, hR1, hNA⟩ := hrd
      obtain rfl : v = vv := by simpa using hvv
      clear hvv
      obtain ⟨A1, c1, rfl, hle, hC⟩ := Kd.R_reads hR1
      obtain ⟨⟨m1, m2⟩, hb9, hk8, F', L', hWoA, hTA, hLA, hLe⟩ := hI
      obtain ⟨hplt, hget, hxm⟩ := prefix_get hpre
      have hzA := hk8.size
      have hwl0 := h8.wo.ml
      have hwp0 := h8.wo.pl
      have hVA := Kd.V_step hVw (w1 := A) (fun j hj hlt => hk8.block j hlt (fun h => by
        rcases h with h | h
        · rcases hj.1 with z | z
          · exact h3.pm (h ▸ z)
          · omega
        · omega))
      obtain ⟨ad, Ar, cr, rfl, x0, x1, x2, x3, hler, hCr, _⟩ := ver_get hVA (pre.length : Int) (by omega) (by omega)
      simp only [Int.toNat_natCast] at x0 x1 x2 x3
      rw [rdVer, hget] at x0 x1 x2 x3 hler hCr
      have hxk := hnok x hxm
      have hxr := hrwE x hxm
      have hsm := same_f x (by omega)
      have b3 := blk_cell (hk8.at hx38 (fun h => by omega)) 0
      have b5 := blk_cell (hk8.at hx58 (fun h => by omega)) 0
      have b8 := blk_cell (hk8.at hx88 (fun h => by omega)) 0
      have k9 := blk_cell hb9 0
      have v0 := blk_cell hvb 0
      have v1 := blk_cell hvb 1
      have v2 := blk_cell hvb 2
      have v3 := blk_cell hvb 3
      subst hact
      simp only [List.setIfInBounds_toArray, List.set_cons_zero, List.set_cons_succ]
      gi_wp2
      have keep : ∀ V : World, Below A.heap.size A V → V.cell? ⟨w6.heap.size + 1, 0, none⟩ = some (.int .i64 (pre.length : Nat)) ∧ V.cell? ⟨w6.heap.size, 0, none⟩ = some (.slice (some ad) wl.length c6) ∧ V.cell? ⟨vb, 0, none⟩ = some (.int .u64 x.f0.f0) ∧ V.cell? ⟨vb, 1, none⟩ = some (.int .u32 x.f0.f1) ∧ V.cell? ⟨vb, 2, none⟩ = some (.slice A1 x.f1.length c1) ∧ V.cell? ⟨vb, 3, none⟩ = some (.int .u64 x.f2) ∧ V.cell? (ad.add (pre.length * 4)) = some (.int .u64 x.f0.f0) ∧ V.cell? ⟨(ad.add (pre.length * 4)).block, (ad.add (pre.length * 4)).off + 1, none⟩ = some (.int .u32 x.f0.f1) ∧ V.cell? ⟨(ad.add (pre.length * 4)).block, (ad.add (pre.length * 4)).off + 2, none⟩ = some (.slice Ar x.f1.length cr) ∧ V.cell? ⟨(ad.add (pre.length * 4)).block, (ad.add (pre.length * 4)).off + 3, none⟩ = some (.int .u64 x.f2) := fun V hV => ⟨pw_cell_below hV k9, pw_cell_below hV b8, pw_cell_below hV v0, pw_cell_below hV v1, pw_cell_below hV v2, pw_cell_below hV v3, pw_cell_below hV x0, pw_cell_below hV x1, pw_cell_below hV x2, pw_cell_below hV x3⟩
      have d1 : decide ((wl.length : Int) ≤ (pre.length : Int)) = false := decide_eq_false (by omega)
      have d2 : decide (wl.length ≤ pre.length) = false := decide_eq_false (by omega)
      have i0 : (0 : Int) ≤ (pre.length : Int) := by omega
      have i1 : (pre.length : Int) < (wl.length : Int) := by omega
      refine wpIn_region_R 13 (S := fun V => V.cell? ⟨w6.heap.size + 1, 0, none⟩ = some (.int .i64 (pre.length : Nat)) ∧ V.cell? ⟨w6.heap.size, 0, none⟩ = some (.slice (some ad) wl.length c6) ∧ V.cell? ⟨vb, 0, none⟩ = some (.int .u64 x.f0.f0) ∧ V.cell? ⟨vb, 1, none⟩ = some (.int .u32 x.f0.f1) ∧ V.cell? ⟨vb, 2, none⟩ = some (.slice A1 x.f1.length c1) ∧ V.cell? ⟨vb, 3, none⟩ = some (.int .u64 x.f2) ∧ V.cell? (ad.add (pre.length * 4)) = some (.int .u64 x.f0.f0) ∧ V.cell? ⟨(ad.add (pre.length * 4)).block, (ad.add (pre.length * 4)).off + 1, none⟩ = some (.int .u32 x.f0.f1) ∧ V.cell? ⟨(ad.add (pre.length * 4)).block, (ad.add (pre.length * 4)).off + 2, none⟩ = some (.slice Ar x.f1.length cr) ∧ V.cell? ⟨(ad.add (pre.length * 4)).block, (ad.add (pre.length * 4)).off + 3, none⟩ = some (.int .u64 x.f2)) (by kernel_rfl) (keep _ (below_drew (Below.refl _ _))) (fun hS0 => ?_)
      have KP := Lib.hid keep
      clear keep k9 v0 v1 v2 v3 x0 x1 x2 x3
      refine wpAnyR_take (i := 0) (oi := ⟨some 37, _, _, _, _, _⟩) (v := ?_) (by kernel_rfl) (by kernel_rfl) rfl (by kernel_rfl) (by kernel_rfl) (by kernel_rfl) (fun _ _ _ h => h) (Or.inl ⟨by rfl, ?_⟩) (by assumption) ?_
      rotate_left
      · intro w hSw; (try dsimp only at hSw); (try go_split_ands); go_simp; (try (with_reducible rfl))
      (try simp only [Act.put, List.setIfInBounds_toArray, List.set_cons_zero, List.set_cons_succ])
      refine wpAnyR_take (i := 1) (oi := ⟨some 38, _, _, _, _, _⟩) (v := ?_) (by kernel_rfl) (by kernel_rfl) rfl (by kernel_rfl) (by kernel_rfl) (by kernel_rfl) (fun _ _ _ h => h) (Or.inl ⟨by rfl, ?_⟩) (by assumption) ?_
      rotate_left
      · intro w hSw; (try dsimp only at hSw); (try go_split_ands); go_simp; (try (with_reducible rfl))
      (try simp only [Act.put, List.setIfInBounds_toArray, List.set_cons_zero, List.set_cons_succ])
      refine wpAnyR_take (i := 2) (oi := ⟨some 39, _, _, _, _, _⟩) (v := ?_) (by kernel_rfl) (by kernel_rfl) rfl (by kernel_rfl) (by kernel_rfl) (by kernel_rfl) (fun _ _ _ h => h) (Or.inl ⟨by rfl, ?_⟩) (by assumption) ?_
      rotate_left
      · intro w hSw; (try dsimp only at hSw); (try go_split_ands); go_simp; (try (with_reducible rfl))
      (try simp only [Act.put, List.setIfInBounds_toArray, List.set_cons_zero, List.set_cons_succ])
      refine wpAnyR_take (i := 3) (oi := ⟨some 40, _, _, _, _, _⟩) (v := ?_) (by kernel_rfl) (by kernel_rfl) rfl (by kernel_rfl) (by kernel_rfl) (by kernel_rfl) (fun _ _ _ h => h) (Or.inl ⟨by rfl, ?_⟩) (by assumption) ?_
      rotate_left
      · intro w hSw; (try dsimp only at hSw); (try go_split_ands); go_simp; (try (with_reducible rfl))
      (try simp only [Act.put, List.setIfInBounds_toArray, List.set_cons_zero, List.set_cons_succ])
      refine wpAnyR_take (i := 4) (oi := ⟨some 41, _, _, _, _, _⟩) (v := ?_) (by kernel_rfl) (by kernel_rfl) rfl (by kernel_rfl) (by kernel_rfl) (by kernel_rfl) (fun _ _ _ h => h) (Or.inl ⟨by rfl, ?_⟩) (by assumption) ?_
      rotate_left
      · intro w hSw; (try dsimp only at hSw); (try go_split_ands); go_simp; (try (with_reducible rfl))
      (try simp only [Act.put, List.setIfInBounds_toArray, List.set_cons_zero, List.set_cons_succ])
      refine wpAnyR_take (i := 5) (oi := ⟨some 42, _, _, _, _, _⟩) (v := ?_) (by kernel_rfl) (by kernel_rfl) rfl (by kernel_rfl) (by kernel_rfl) (by kernel_rfl) (fun _ _ _ h => h) (Or.inl ⟨by rfl, ?_⟩) (by assumption) ?_
      rotate_left
      · intro w hSw; (try dsimp only at hSw); (try go_split_ands); go_simp; (try (with_reducible rfl))
      (try simp only [Act.put, List.setIfInBounds_toArray, List.set_cons_zero, List.set_cons_succ])
      refine wpAnyR_take (i := 6) (oi := ⟨some 43, _, _, _, _, _⟩) (v := ?_) (by kernel_rfl) (by kernel_rfl) rfl (by kernel_rfl) (by kernel_rfl) (by kernel_rfl) (fun _ _ _ h => h) (Or.inl ⟨by rfl, ?_⟩) (by assumption) ?_
      rotate_left
      · intro w hSw; (try dsimp only at hSw); (try go_split_ands); go_simp; (try (with_reducible rfl))
      (try simp only [Act.put, List.setIfInBounds_toArray, List.set_cons_zero, List.set_cons_succ])
      refine wpAnyR_take (i := 7) (oi := ⟨some 44, _, _, _, _, _⟩) (v := ?_) (by kernel_rfl) (by kernel_rfl) rfl (by kernel_rfl) (by kernel_rfl) (by kernel_rfl) (fun _ _ _ h => h) (Or.inl ⟨by rfl, ?_⟩) (by assumption) ?_
      rotate_left
      · intro w hSw; (try dsimp only at hSw); (try go_split_ands); go_simp; (try (with_reducible rfl))
      (try simp only [Act.put, List.setIfInBounds_toArray, List.set_cons_zero, List.set_cons_succ])
      refine wpAnyR_take (i := 8) (oi := ⟨some 45, _, _, _, _, _⟩) (v := ?_) (by kernel_rfl) (by kernel_rfl) rfl (by kernel_rfl) (by kernel_rfl) (by kernel_rfl) (fun _ _ _ h => h) (Or.inl ⟨by rfl, ?_⟩) (by assumption) ?_
      rotate_left
      · intro w hSw; (try dsimp only at hSw); (try go_split_ands); go_simp; (try (with_reducible rfl))
      (try simp only [Act.put, List.setIfInBounds_toArray, List.set_cons_zero, List.set_cons_succ])
      refine wpAnyR_take (i := 9) (oi := ⟨some 46, _, _, _, _, _⟩) (v := ?_) (by kernel_rfl) (by kernel_rfl) rfl (by kernel_rfl) (by kernel_rfl) (by kernel_rfl) (fun _ _ _ h => h) (Or.inl ⟨by rfl, ?_⟩) (by assumption) ?_
      rotate_left
      · intro w hSw; (try dsimp only at hSw); (try go_split_ands); go_simp; (try (with_reducible rfl))
      (try simp only [Act.put, List.setIfInBounds_toArray, List.set_cons_zero, List.set_cons_succ])
      refine wpAnyR_one (i := 10) (o := ⟨some 47, _, _, _, _, _⟩) (by kernel_rfl) (by kernel_rfl) rfl (fun K hK => ?_)
      go_simp
      refine (hayloftref10_Same.calls (x.f1.length + 2) x.f0.f0 x.f0.f1 A1 c1 x.f1 x.f2 x.f0.f0 x.f0.f1 Ar cr x.f1 x.f2 true _ (Kd.C_below hC (below_drew (Below.refl _ _))) hle (Kd.C_below hCr (below_drew (Below.refl _ _))) hler hsm).mono ?_
      rintro e w9 ⟨rfl, hb9'⟩
      have hbA9 : Below A.heap.size A w9 := (below_drew (Below.refl _ _)).trans hb9'
      have hS9 := KP.out w9 hbA9
      (try dsimp only)
      refine hK.out _ _ (.inr hS9) ?_
      clear hK K
      (try simp only [Act.put, List.setIfInBounds_toArray, List.set_cons_zero, List.set_cons_succ])
      refine wpAnyR_take (i := 11) (oi := ⟨some 48, _, _, _, _, _⟩) (v := ?_) (by kernel_rfl) (by kernel_rfl) rfl (by kernel_rfl) (by kernel_rfl) (by kernel_rfl) (fun _ _ _ h => h) (Or.inl ⟨by rfl, ?_⟩) (by assumption) ?_
      rotate_left
      · intro w hSw; (try dsimp only at hSw); (try go_split_ands); go_simp; (try (with_reducible rfl))
      (try simp only [Act.put, List.setIfInBounds_toArray, List.set_cons_zero, List.set_cons_succ])
      refine wpAnyR_take (i := 12) (oi := ⟨some 49, _, _, _, _, _⟩) (v := ?_) (by kernel_rfl) (by kernel_rfl) rfl (by kernel_rfl) (by kernel_rfl) (by kernel_rfl) (fun _ _ _ h => h) (Or.inl ⟨by rfl, ?_⟩) (by assumption) ?_
      rotate_left
      · intro w hSw; (try dsimp only at hSw); (try go_split_ands); go_simp; (try (with_reducible rfl))
      (try simp only [Act.put, List.setIfInBounds_toArray, List.set_cons_zero, List.set_cons_succ])
      refine wpAnyR_done (by kernel_rfl) ?_ _
      have hx99 := blk_below hb9 hbA9
      have hxv9 := blk_below hvb hbA9
      have hz9 := hbA9.size
      have e9 := blk_cell hx99 0
      have f9 := blk_frozen hx99 0
      have hvbl := blk_lt hvb
      have hx10 : (w9.setCell ⟨w6.heap.size + 1, 0, none⟩ (.int .i64 ((pre.length : Nat) + 1))).heap[w6.heap.size + 1]? = some (.cells #[.int .i64 ((pre.length : Nat) + 1)] 3 (0, 0)) := blk_set hx99 0 _
      have hsame : ∀ k, k ≠ w6.heap.size + 1 → (w9.setCell ⟨w6.heap.size + 1, 0, none⟩ (.int .i64 ((pre.length : Nat) + 1))).heap[k]? = w9.heap[k]? := fun k hk => Below.heap_setCell _ _ _ _ hk
      have hs10 : (w9.setCell ⟨w6.heap.size + 1, 0, none⟩ (.int .i64 ((pre.length : Nat) + 1))).heap.size = w9.heap.size := World.size_setCell ..
      have hos : (w9.setCell ⟨w6.heap.size + 1, 0, none⟩ (.int .i64 ((pre.length : Nat) + 1))).os = w9.os ∧ (w9.setCell ⟨w6.heap.size + 1, 0, none⟩ (.int .i64 ((pre.length : Nat) + 1))).tape = w9.tape ∧ (w9.setCell ⟨w6.heap.size + 1, 0, none⟩ (.int .i64 ((pre.length : Nat) + 1))).output = w9.output := ⟨rfl, rfl, rfl⟩
      have hAb : ∀ i, i < A.heap.size → i ≠ w6.heap.size + 1 → (w9.setCell ⟨w6.heap.size + 1, 0, none⟩ (.int .i64 ((pre.length : Nat) + 1))).heap[i]? = A.heap[i]? := fun i hi hn => (hsame i hn).trans (hbA9.block i hi)
      have b3' := blk_cell ((hAb _ (by omega) (by omega)).trans (hk8.at hx38 (fun h => by omega))) 0
      have b5' := blk_cell ((hAb _ (by omega) (by omega)).trans (hk8.at hx58 (fun h => by omega))) 0
      have u0 := blk_cell ((hAb vb hvbl (by omega)).trans hvb) 0
      have u1 := blk_cell ((hAb vb hvbl (by omega)).trans hvb) 1
      clear hS9 hS0
      gi_wp2
      generalize w9.setCell ⟨w6.heap.size + 1, 0, none⟩ (.int .i64 ((pre.length : Nat) + 1)) = wa at hx10 hsame hs10 hos hAb b3' b5' u0 u1 ⊢
      have hWa : Wo wa p m L'.length R F' := hWoA.keep (by omega) (hAb p hWoA.pl (by omega)) (hAb m hWoA.ml (by omega)) (fun j hj => hAb j (hWoA.rl j hj) (by have := h8.wo.rl j hj; have := h3.wo.rl j hj; omega))
      have hx3a := (hAb _ (by omega) (by omega)).trans (hk8.at hx38 (fun h => by omega))
      have hx5a := (hAb _ (by omega) (by omega)).trans (hk8.at hx58 (fun h => by omega))
      have hza : A.heap.size ≤ wa.heap.size := by omega
      clear b3 b5 b8 e9 f9
      refine ⟨trivial, rfl, calls_in _ _ ((erase_gen x.f0 E wa p m _ R F' L' hWa hTA hxk (by unfold maxLen; omega)).mono ?_)⟩
      rintro e wc ⟨z, n1, F1, rfl, hWo1, hT1, hg1⟩
      have hWo1 := wo_fit hWo1 hT1
      have hl1 := erR_len L' x.f0 E
      generalize (erR L' x.f0 E).1 = L1 at hT1 hl1 hWo1
      have hx3c := blk_grown hx3a hg1 (by intro e; injection e with e; omega)
      have hx5c := blk_grown hx5a hg1 (by intro e; injection e with e; omega)
      have b3c := blk_cell hx3c 0
      have b5c := blk_cell hx5c 0
      clear b3' b5' u0 u1
      gi_wp2
      refine ⟨trivial, rfl, calls_in _ _ ((purge_any wc p m _ R F1 E hWo1).mono ?_)⟩
      rintro e wd ⟨k1, k2, rfl, _, _, _, _, hWo2, hg2⟩
      have hT2 : IsTold (purgeF F1 E) (L1.filter (stays E)) := told_filter hT1 (stays E)
      have hWo2 := wo_fit hWo2 hT2
      have hl2 : (L1.filter (stays E)).length ≤ L1.length := List.length_filter_le _ _
      generalize L1.filter (stays E) = L2 at hT2 hl2 hWo2
      have hx5d := blk_grown hx5c hg2 (by intro e; injection e with e; omega)
      have b5d := blk_cell hx5d 0
      clear b3c b5c
      gi_wp2
      refine ⟨trivial, rfl, calls_in _ _ ((take_any wd p m _ R _ L2 hWo2 hT2 (by omega) (by omega)).mono ?_)⟩
      rintro e we ⟨ve, rfl, _, hWo3, hg3⟩
      gi_wp2
      have hza1 := hg1.size
      have hza2 := hg2.size
      have hza3 := hg3.size
      have hal : ∀ i, i < A.heap.size → i ≠ m → i ≠ w6.heap.size + 1 → we.heap[i]? = A.heap[i]? := fun i hi h1 h2 => (hg3.block i (by omega) (by intro e; injection e with e; exact h1 e)).trans ((hg2.block i (by omega) (by intro e; injection e with e; exact h1 e)).trans ((hg1.block i (by omega) (by intro e; injection e with e; exact h1 e)).trans (hAb i hi h2)))
      have hKA : Kpt (fun i => i = m ∨ i = w6.heap.size + 1) A we := ⟨hg3.os.trans (hg2.os.trans (hg1.os.trans (hos.1.trans hbA9.os))), hg3.tape.trans (hg2.tape.trans (hg1.tape.trans (hos.2.1.trans hbA9.tape))), hg3.output.trans (hg2.output.trans (hg1.output.trans (hos.2.2.trans hbA9.output))), by omega, fun i hi hn => hal i hi (fun h => hn (.inl h)) (fun h => hn (.inr h))⟩
      refine ⟨fun i => i = m ∨ i = w6.heap.size + 1, fun i hi => ⟨.inl (by rcases hi with h | h; exact h ▸ m1; exact h ▸ m2), by rcases hi with h | h <;> omega⟩, hKA.mono (fun i _ h => .inl (by rcases h with h | h; exact h ▸ m1; exact h ▸ m2)), ⟨.inl rfl, .inr rfl⟩, ?_, hk8.trans hKA (fun _ _ h => h.elim id id), _, [], hWo3, told_nil, Nat.zero_le _, fun _ => rfl⟩
      have := blk_grown (blk_grown (blk_grown hx10 hg1 (by intro e; injection e with e; omega)) hg2 (by intro e; injection e with e; omega)) hg3 (by intro e; injection e with e; omega)
      rw [this]
      simp
    case done2 =>
      intro D2 W9 M9 hI hk9 hM9 hD2 hDw2 hDM2
      obtain ⟨_, hb9, hk8, F', L', hWoA, hTA, hLA, hLe⟩ := hI
      have hwl0 := h8.wo.ml
      have hz9 := hk8.size
      have hx39 := hk8.at hx38 (fun h => by omega)
      have hx49 := hk8.at hx48 (fun h => by omega)
      have hx59 := hk8.at hx58 (fun h => by omega)
      have hx89 := hk8.at hx88 (fun h => by omega)
      have hz34 := hB34.size
      have hD9 := hk8.at hD8 (fun h => by omega)
      have hB9 : Below w.heap.size w W9 := hB08.trans (hk8.below (b := w.heap.size) (by omega) (fun i hi h => by omega))
      have hz49 := blk_lt hx49
      have hlD := blk_lt hD9
      have hlD2 := blk_lt hD2
      refine kk.down _ _ ?_
      subst hact
      have b9 := blk_cell hb9 0
      have b8 := blk_cell hx89 0
      have b5 := blk_cell hx59 0
      have b4 := blk_cell hx49 0
      have f4 := blk_frozen hx49 0
      rcases Nat.eq_zero_or_pos wl.length with h0 | h0
      · have b9 : W9.cell? ⟨w6.heap.size + 1, 0, none⟩ = some (.int .i64 0) := by rw [b9, h0]; rfl
        have b8 : W9.cell? ⟨w6.heap.size, 0, none⟩ = some (.slice A6 0 c6) := by rw [b8, h0]; rfl
        have hxs : (W9.setCell ⟨w.heap.size + 1, 0, none⟩ (.bool true)).heap[w.heap.size + 1]? = some (.cells #[.bool true] 4 (0, 0)) := blk_set hx49 0 _
        have hsm : ∀ k, k ≠ w.heap.size + 1 → (W9.setCell ⟨w.heap.size + 1, 0, none⟩ (.bool true)).heap[k]? = W9.heap[k]? := fun k hk => Below.heap_setCell _ _ _ _ hk
        have hBs : Below w.heap.size w (W9.setCell ⟨w.heap.size + 1, 0, none⟩ (.bool true)) := hB9.setCell (p := ⟨w.heap.size + 1, 0, none⟩) (by show w.heap.size ≤ w.heap.size + 1; omega) _
        gi_wp2
        refine ⟨trivial, ?_⟩
        gi_wp2
        have hDs := (hsm D (by omega)).trans hD9
        have hD2s := (hsm D2 (by omega)).trans hD2
        generalize W9.setCell ⟨w.heap.size + 1, 0, none⟩ (.bool true) = wz at hxs hsm hBs hDs hD2s ⊢
        have hDk : (wz.putObj D2 (.deferred none)).heap[D]? = some (.deferred (some [])) := (Kpt.putObj wz D2 _).at hDs (by omega)
        have hxk : ((wz.putObj D2 (.deferred none)).putObj D (.deferred none)).heap[w.heap.size + 1]? = some (.cells #[.bool true] 4 (0, 0)) := (Kpt.putObj _ D _).at ((Kpt.putObj wz D2 _).at hxs (by omega)) (by omega)
        have hBk : Below w.heap.size w ((wz.putObj D2 (.deferred none)).putObj D (.deferred none)) := hBs.trans ((((Kpt.putObj wz D2 (.deferred none)).below (b := w.heap.size) hBs.size (fun i _ e => by omega))).trans ((Kpt.putObj _ D (.deferred none)).below (b := w.heap.size) (Nat.le_trans hBs.size (Kpt.putObj wz D2 _).size) (fun i _ e => by omega)))
        refine ⟨by simp, .inl ⟨_, _, rfl, run_takeDeferred hD2s, by simp, .inl ⟨_, _, rfl, run_takeDeferred hDk, ?_⟩⟩⟩
        have ck := blk_cell hxk 0
        refine ⟨.bool true, ?_, rfl, hBk⟩
        simp [results, Try.results8, go_sem, ck]
      · have hne : wl ≠ [] := fun h => by rw [h] at h0; simp at h0
        obtain rfl := hLe hne
        have n0 : ((wl.length : Int) == 0) = false := beq_eq_false_iff_ne.2 (by omega)
        gi_wp2
        refine ⟨trivial, rfl, callsIn_wide.2 ((len_any W9 p m _ R F' hWoA).mono ?_)⟩
        rintro e W9' ⟨rfl, kk, rfl, hkn, hmany⟩
        obtain rfl : kk = 0 := by simpa using hkn
        have hxs : (W9'.setCell ⟨w.heap.size + 1, 0, none⟩ (.bool true)).heap[w.heap.size + 1]? = some (.cells #[.bool true] 4 (0, 0)) := blk_set hx49 0 _
        have hsm : ∀ k, k ≠ w.heap.size + 1 → (W9'.setCell ⟨w.heap.size + 1, 0, none⟩ (.bool true)).heap[k]? = W9'.heap[k]? := fun k hk => Below.heap_setCell _ _ _ _ hk
        have hBs : Below w.heap.size w (W9'.setCell ⟨w.heap.size + 1, 0, none⟩ (.bool true)) := hB9.setCell (p := ⟨w.heap.size + 1, 0, none⟩) (by show w.heap.size ≤ w.heap.size + 1; omega) _
        gi_wp2
        have hDs := (hsm D (by omega)).trans hD9
        have hD2s := (hsm D2 (by omega)).trans hD2
        generalize W9'.setCell ⟨w.heap.size + 1, 0, none⟩ (.bool true) = wz at hxs hsm hBs hDs hD2s ⊢
        have hDk : (wz.putObj D2 (.deferred none)).heap[D]? = some (.deferred (some [])) := (Kpt.putObj wz D2 _).at hDs (by omega)
        have hxk : ((wz.putObj D2 (.deferred none)).putObj D (.deferred none)).heap[w.heap.size + 1]? = some (.cells #[.bool true] 4 (0, 0)) := (Kpt.putObj _ D _).at ((Kpt.putObj wz D2 _).at hxs (by omega)) (by omega)
        have hBk : Below w.heap.size w ((wz.putObj D2 (.deferred none)).putObj D (.deferred none)) := hBs.trans ((((Kpt.putObj wz D2 (.deferred none)).below (b := w.heap.size) hBs.size (fun i _ e => by omega))).trans ((Kpt.putObj _ D (.deferred none)).below (b := w.heap.size) (Nat.le_trans hBs.size (Kpt.putObj wz D2 _).size) (fun i _ e => by omega)))
        refine ⟨by simp, .inl ⟨_, _, rfl, run_takeDeferred hD2s, by simp, .inl ⟨_, _, rfl, run_takeDeferred hDk, ?_⟩⟩⟩
        have ck := blk_cell hxk 0
        refine ⟨.bool true, ?_, rfl, hBk⟩
        simp [results, Try.results8, go_sem, ck]
    case stop2 => exact fun _ _ _ _ _ _ h => h.elim
  clear k
  refine wpIn_rangeZ (gf := 41) (lb := #[.pointer (some ⟨w3.heap.size, 0, none⟩), .pointer (some ⟨w3.heap.size + 1, 0, none⟩)]) ?hg ?eg hseq4 (Below.refl _ _) ?hps ?hRd
    (fun _ _ _ => True) (fun c _ _ _ => c = .exit 0) ?hI ?hIx (fun _ => False) ?hM trivial (fun _ _ _ _ _ => True) ?hAx ?assign ?body ?done ?stop
  case hg => rw [hact]; rfl
  case eg => exact fun args w => by kernel_rfl
  case hps =>
    intro A N x vs h
    obtain ⟨v, rfl, _⟩ := h
    rfl
  case hRd =>
    intro A B N x vs h hk
    exact RdV.kept h hk
  case hI => exact fun _ _ _ _ _ _ => trivial
  case hIx => exact fun _ _ _ _ _ h _ => h
  case hM => exact fun _ h => h.elim
  case hAx => exact fun _ _ _ _ _ _ _ _ => trivial
  case assign =>
    intro l pre x vs N A M hI hpre hrd hM hN
    gi_wp2
    exact ⟨M, fun i hi => ⟨.inl hi, (hM i hi).2⟩, Kpt.refl _ _, trivial, trivial⟩
  case body =>
    intro l pre x vs N A M a₁ hI hpre hrd hax hM hN
    gi_wp2
    exact ⟨M, fun i hi => ⟨.inl hi, (hM i hi).2⟩, Kpt.refl _ _, rfl⟩
  case done =>
    intro D W M' hI hk hM' hD hDw hDM
    exact REST D W (hk.below (Nat.le_refl _) (fun i _ h => h.elim)) hD hDw
  case stop =>
    intro D c pre W M' hpre hI hk hM' hD hDw hDM
    subst hI
    gi_wp2
    exact REST D W (hk.below (Nat.le_refl _) (fun i _ h => h.elim)) hD hDw
end Go.Proofs.Ytacacigpendneaa.QV
