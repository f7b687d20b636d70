/- RecoverPurged: the plain law, the walk. -/
import Derived.Test.YtfepfpcilmaojaaQVx7
import Derived.Test.YtfepfpcilmaojaaLCatches
namespace Go.Proofs.Ytfepfpcilmaojaa.QV
open Go.RowKit Go.Proofs.YtfepfpcilmaojaaW.PrintWords Go.Proofs.Ytfepfpcilmaojaa.Mp Go.Proofs.Ytfepfpcilmaojaa.SeqW
set_option linter.unusedVariables false
set_option linter.unusedSimpArgs false
set_option maxRecDepth 100000
def stays (mark : Int) (v : Ver) : Bool := decide (v.f2 = 0) || decide (mark < v.f2)
theorem purge_l0 (l : List Ver) (mark : Int) (hl : l.length < 2932031007402) : ∀ (n i : Nat) (b : List Ver), i + n = l.length → b.length ≤ i → hayloftref10_Purge.l0 (n + 1) l mark b i = some (b ++ (l.drop i).filter (stays mark)) := by
  intro n
  induction n with
  | zero =>
    intro i b hi hb
    rw [Nat.add_zero] at hi
    subst hi
    rw [hayloftref10_Purge.l0, if_neg (by omega), List.drop_length]
    simp
  | succ n ih =>
    intro i b hi hb
    have hil : i < l.length := by omega
    have hw : wrap64 ((i : Int) + 1) = ((i + 1 : Nat) : Int) := by rw [wrap_succ i (by omega)]; rfl
    have hg : rd_T34 l (i : Int) = l[i] := by rw [rdVer, List.getD_eq_getElem?_getD, List.getElem?_eq_getElem hil]; rfl
    rw [hayloftref10_Purge.l0, if_pos (by omega), if_pos (Int.natCast_nonneg i), hw, hg, List.drop_eq_getElem_cons hil, List.filter_cons]
    have hi1 := ih (i + 1) (b ++ [l[i]]) (by omega) (by rw [List.length_append, List.length_singleton]; omega)
    rw [List.append_assoc] at hi1
    by_cases h1 : l[i].f2 = 0
    · rw [if_pos h1, if_pos (by omega), if_pos (by simp [stays, h1])]
      exact hi1
    · rw [if_neg h1]
      by_cases h2 : l[i].f2 > mark
      · rw [if_pos h2, if_pos (by omega), if_pos (by simp [stays, h2])]
        exact hi1
      · rw [if_neg h2, if_neg (by simp [stays, h1]; omega)]
        exact ih (i + 1) b (by omega) (by omega)
theorem purge_f (l : List Ver) (mark : Int) (hl : l.length < 2932031007402) : hayloftref10_Purge.f (l.length + 1) l mark = some (l.filter (stays mark)) := by
  unfold hayloftref10_Purge.f
  have := purge_l0 l mark hl l.length 0 [] (by omega) (Nat.le_refl _)
  rw [List.drop_zero, List.nil_append] at this
  exact this
theorem rightB_mem {l : List Ver} (h : rightB l = true) {v : Ver} (hv : v ∈ l) (h0 : v.f2 ≠ 0) : v.f0.f0 < v.f2 := by
  have := List.all_eq_true.1 h v hv
  simp [h0] at this
  exact this
theorem purge_same (a : List Ver) (h : okV a = true) (hone : a.Pairwise (fun x y => x.f0 ≠ y.f0)) (hrt : rightB a = true) (mark since ep : Int) (hms : mark ≤ since) (h0 : 0 ≤ since) :
    changesL (a.filter (stays mark)) since ep = changesL a since ep := by
  obtain ⟨h1, h2, h3⟩ := (okV_iff a).1 h
  have hp1 : ∀ x ∈ a.filter (stays mark), Nok x.f0 := fun x hx => h1 x (List.mem_filter.1 hx).1
  have I1 := uptoL_is (a.filter (stays mark)) ep hp1
  have I2 := uptoL_is a ep h1
  have hmem : ∀ {F : Nm → Option Ver} {L : List Ver}, IsTold F L → (∀ k, (F k).isSome = true → Nok k) → (∀ k x, F k = some x → x.f0 = k) → ∀ x, x ∈ L ↔ F x.f0 = some x := fun {F L} hI hN hF x => by
    constructor
    · intro hx; exact (hI.2.1 x hx).2
    · intro hx
      obtain ⟨y, hy, e⟩ := hI.2.2 x.f0 (hN _ (by rw [hx]; rfl)) (by rw [hx]; rfl)
      have := (hI.2.1 y hy).2
      rw [e, hx] at this
      cases this
      exact hy
  refine sorted_eq (r := fun a b => cmpNm a.f0 b.f0 < 0) (fun a b h => by rw [cmpNm_neg] at *; omega) _ _ (I1.1.filter _) (I2.1.filter _) fun x => ?_
  unfold changesL
  rw [List.mem_filter, List.mem_filter, hmem I1 (uptoF_nok _ hp1 ep) (uptoF_f0 _ ep), hmem I2 (uptoF_nok _ h1 ep) (uptoF_f0 _ ep)]
  unfold uptoF
  rw [filter_first a hone]
  cases hk : firstOf a x.f0 with
  | none => simp
  | some v =>
    have hv := firstOf_mem a x.f0 v hk
    have hv0 := firstOf_f0 a x.f0 v hk
    cases hs : stays mark v with
    | true => simp [Option.filter, hs]
    | false =>
      have hd0 : v.f2 ≠ 0 := by intro e; simp [stays, e] at hs
      have hdm : v.f2 ≤ mark := by simp [stays] at hs; omega
      have hr := rightB_mem hrt hv hd0
      simp only [Option.filter, hs]
      constructor
      · rintro ⟨h, _⟩; split at h <;> simp at h
      · rintro ⟨h, hx⟩
        exfalso
        split at h
        · cases h
        · simp at h
          have : oldP since x = true := by
            rw [← h]
            unfold oldP
            rw [asOf_f0]
            have e1 : v.f0.f0 ≤ since := by omega
            have e2 : (asOf ep v).f2 ≤ since := by
              unfold asOf; split
              · exact h0
              · omega
            simp [e1, e2]
          rw [this] at hx
          cases hx
theorem infoVer : (Try.prog.info? tVer).map (fun i => (i.zero, i.size, i.bytes)) = some (some (.agg #[.int .u64 0, .int .u32 0, .slice none 0 0, .int .u64 0]), 4, 48) := by kernel_rfl
theorem slice_alloc1 (w : World) (o : Obj) (n c : Nat) : Value.slice (some ⟨w.heap.size + 1, 0, none⟩) n c = Value.slice (some ⟨(w.alloc o).heap.size, 0, none⟩) n c := by rw [World.size_alloc]
theorem dd_snoc (l a : List Ver) (x : Ver) : dd a (l ++ [x]) = if hasN (dd a l) x.f0 = true then dd a l else dd a l ++ [x] := by
  induction l generalizing a with
  | nil => simp only [List.nil_append]; unfold dd; split <;> rfl
  | cons y l ih =>
    rw [List.cons_append, dd, dd]
    split
    · exact ih a
    · exact ih (a ++ [y])
set_option maxHeartbeats 8000000 in
theorem walkPurged (A0 : Option Addr) (c0 : Nat) (l : List Ver) (e0 e1 e2 : Int) (w : World) (hr : kVer.C w A0 l.length l) (hc : l.length ≤ c0) (hl : l.length < 2932031007402)
    (first : List Ver) (hdd : dd [] l = first) (rb : Bool) (k0 : Nat) (hrb : hayloftlaw18_right.f k0 first = some rb) (kp : Nat) (pu ch : List Ver) (hP : hayloftref10_Purge.f kp first e0 = some pu)
    (hC1 : ¬ e1 < e0 → rb = true → recover_Changes.f pu e1 e2 = some ch) (hC2 : recover_Changes.f first e1 e2 = some ch) (k1 : Nat) (hS : hayloftref10_SameAll.f k1 ch ch = some true) :
    Calls Try.prog 6 #[.slice A0 l.length c0, .agg #[.int .u64 e0, .int .u64 e1, .int .u64 e2]] w fun e w' => e = .returned (.bool true) ∧ Below w.heap.size w w' := by
  have al := alive18
  by_cases h1 : e1 < e0
  · go_enter Try.func6, Try.ntmps6
    go_wp2_with fail
    repeat (go_quiet (fail); try go_wp2_with fail)
    refine (hayloftlaw18_alive.calls true _ al).mono ?_
    rintro e wa ⟨rfl, hba⟩
    go_wp2_with fail
    go_ret
    exact ⟨rfl, btr' (by repeat (first | exact Below.refl _ _ | apply pw_below_drewN | apply below_alloc)) hba⟩
  go_enter Try.func6, Try.ntmps6
  go_wp2_with fail
  repeat (go_quiet (fail); try go_wp2_with fail)
  go_loopw [8, 23] (fun v i wr => ∃ k : Nat, k ≤ l.length ∧ i = .int .i64 k ∧ Kd.N kVer tVer wr w.heap.size (fun _ => True) v (dd [] (l.take k)) ∧ Below w.heap.size w wr) (fun _ i _ => l.length - (intOf i).toNat)
  case atStart => exact ⟨0, Nat.zero_le _, rfl, Kd.N_nil _ _ _ _ _, by repeat (first | exact Below.refl _ _ | apply pw_below_drewN | apply below_alloc)⟩
  case round =>
    obtain ⟨k, hk, rfl, hN, hB⟩ := hrel
    obtain ⟨Af, cf, rfl⟩ := Kd.N_slice hN
    have hdl := dd_len (l.take k) []
    rw [List.length_take] at hdl
    simp only [List.length_nil, Nat.zero_add] at hdl
    by_cases hlt : k < l.length
    · obtain ⟨ad, e, q0, q1, Ax, cx, q2, hlx, hCx, q3⟩ := ver_at hr k hlt
      replace q0 := pw_cell_below hB q0
      replace q1 := pw_cell_below hB q1
      replace q2 := pw_cell_below hB q2
      replace q3 := pw_cell_below hB q3
      subst e
      have hts := take_snoc' z34 l k hlt
      generalize l.getD k z34 = x at q0 q1 q2 q3 hlx hCx hts
      have hds := dd_snoc (l.take k) [] x
      rw [hts] at hds
      generalize dd [] (l.take k) = fs at hN hds hdl
      obtain ⟨p, hp, hp0⟩ := place_f fs (by omega) x.f0 (fs.length + 1) (Nat.le_refl _)
      have hBa : Below wr.heap.size wr (wr.alloc (.cells #[.int .u64 x.f0.f0, .int .u32 x.f0.f1, .slice Ax x.f1.length cx, .int .u64 x.f2] tVer)) := below_alloc (Below.refl _ _) _
      have hbx := blk_new wr (.cells #[.int .u64 x.f0.f0, .int .u32 x.f0.f1, .slice Ax x.f1.length cx, .int .u64 x.f2] tVer)
      go_wp2_with fail
      refine (hayloftref10_Place.calls (fs.length + 1) Af cf fs x.f0.f0 x.f0.f1 p _ (Kd.N_reads' (Kd.N_alloc hN _)).2.2 (Kd.N_reads' hN).2.1 hp).mono ?_
      rintro e w2 ⟨rfl, hb2⟩
      have hb02 := btr' hBa hb2
      have hN2 := Kd.N_below hN hb02
      have hB2 := btr' hB hb02
      have hbx2 := blk_below hbx hb2
      have b0 := blk_cell hbx2 0
      have b1 := blk_cell hbx2 1
      have b2 := blk_cell hbx2 2
      have b3 := blk_cell hbx2 3
      cases hn : hasN fs x.f0 with
      | true =>
        rw [hn, if_pos rfl] at hds
        have hpn : decide (p < 0) = false := by rw [decide_eq_false_iff_not, hp0, hn]; simp
        go_wp2_with fail
        go_roundw
        case rel => exact ⟨k + 1, by omega, by go_num, by rw [hds]; exact hN2, hB2⟩
        case measure => simp [intOf]; omega
      | false =>
        rw [hn, if_neg (by simp)] at hds
        have hpn : decide (p < 0) = true := by rw [decide_eq_true_iff, hp0, hn]
        go_wp2_with (at_builtin; refine Kd.N_append kVer (w0 := w) w.heap.size rfl (.tmp 32) (.tmp 34) 22 tVer _ 48 rfl Try.underlying22 infoVer rfl (by decide) (by decide) (.slice Af fs.length cf) fs x [.int .u64 x.f0.f0, .int .u32 x.f0.f1, .slice Ax x.f1.length cx, .int .u64 x.f2] (fun _ => True) (fun j => j < w.heap.size) rfl rfl (fun W' hW' => k34_mk W' x hlx (k36_heap.C (fun j hj => (hW' j hj (Nat.lt_of_lt_of_le hj hB2.size)).trans (hB2.block j hj)) hCx)) (fun j hj => ⟨trivial, fun e => by have := Kd.N_base hN2 j e.symm; omega⟩) (fun _ _ => trivial) hN2 hB2 hB2.size (by omega) ?_; intro v1 w3 hN3 hB3 hg3 hat3; clear hg3 hat3)
        go_roundw
        case rel => exact ⟨k + 1, by omega, by go_num, by rw [hds]; exact hN3, hB3⟩
        case measure => simp [intOf]; omega
    · obtain rfl : k = l.length := by omega
      rw [List.take_length, hdd] at hN
      go_wp2_with fail
      refine (hayloftlaw18_right.calls k0 Af cf first rb _ (Kd.N_reads' hN).2.2 (Kd.N_reads' hN).2.1 hrb).mono ?_
      rintro e w1 ⟨rfl, hb1⟩
      have HB1 := btr' hB hb1
      have hN1 := Kd.N_below hN hb1
      cases rb with
      | false =>
        go_wp2_with fail
        refine (hayloftlaw18_alive.calls true _ al).mono ?_
        rintro e wa ⟨rfl, hba⟩
        go_wp2_with fail
        go_ret
        exact ⟨rfl, btr' HB1 hba⟩
      | true =>
        replace hC1 := hC1 h1 rfl
        go_wp2_with fail
        refine (hayloftlaw18_alive.calls true _ al).mono ?_
        rintro e w2 ⟨rfl, hb2⟩
        have HB2 := btr' HB1 hb2
        have hN2 := Kd.N_below hN1 hb2
        go_wp2_with fail
        refine (hayloftref10_Purge.calls kp (fun _ => True) Af cf first e0 pu w2 (Kd.N_V hN2) hP).mono ?_
        rintro e w3 ⟨v3, rfl, hN3, hb3⟩
        obtain ⟨Ap, cp, rfl⟩ := Kd.N_slice hN3
        have HB3 := btr' HB2 hb3
        have hF3 := Kd.C_below (Kd.N_reads' hN2).2.2 hb3
        have hlf := (Kd.N_reads' hN2).2.1
        have hPu := (Kd.N_reads' hN3).2.2
        have hlp := (Kd.N_reads' hN3).2.1
        go_wp2_with fail
        refine (recover_Changes.calls Ap cp pu e1 e2 ch w3 hPu hlp hC1).mono ?_
        rintro e w4 ⟨v4, rfl, hs4, hb4⟩
        obtain ⟨A4, c4, rfl, hl4, hC4⟩ := Kd.S_reads hs4
        have HB4 := btr' HB3 hb4
        have hF4 := Kd.C_below hF3 hb4
        go_wp2_with fail
        refine (recover_Changes.calls Af cf first e1 e2 ch w4 hF4 hlf hC2).mono ?_
        rintro e w5 ⟨v5, rfl, hs5, hb5⟩
        obtain ⟨A5, c5, rfl, hl5, hC5⟩ := Kd.S_reads hs5
        have HB5 := btr' HB4 hb5
        go_wp2_with fail
        refine (hayloftref10_SameAll.calls k1 A4 c4 ch A5 c5 ch true w5 (Kd.C_below hC4 hb5) hl4 hC5 hl5 hS).mono ?_
        rintro e w6 ⟨rfl, hb6⟩
        go_wp2_with fail
        go_ret
        exact ⟨rfl, btr' HB5 hb6⟩
theorem purged (A0 : Option Addr) (c0 : Nat) (l : List Ver) (e0 e1 e2 : Int) (w : World) (hr : kVer.C w A0 l.length l) (hc : l.length ≤ c0) (h : okV l = true) (hbl : l.length * 48 ≤ 140737488351232) (h1 : 0 ≤ e1) :
    Calls Try.prog 6 #[.slice A0 l.length c0, .agg #[.int .u64 e0, .int .u64 e1, .int .u64 e2]] w fun e w' => e = .returned (.bool true) ∧ Below w.heap.size w w' := by
  obtain ⟨a, ha⟩ : ∃ a, dd [] l = a := ⟨_, rfl⟩
  have hone : a.Pairwise (fun x y => x.f0 ≠ y.f0) := by rw [← ha]; exact dd_one l [] (by simp)
  have hal : a.length ≤ l.length := by have := dd_len l []; rw [ha] at this; simpa using this
  have hma : ∀ x ∈ a, x ∈ l := fun x hx => by rw [← ha] at hx; exact (dd_mem l [] x hx).elim (fun h => by simp at h) id
  have hka : okV a = true := okV_sub h hma hal
  have hkp : okV (a.filter (stays e0)) = true := okV_sub hka (fun x hx => (List.mem_filter.1 hx).1) (List.length_filter_le _ _)
  have hkc := okV_changesL a hka e1 e2
  obtain ⟨k1, k2, k3⟩ := (okV_iff _).1 hkc
  obtain ⟨K, hK⟩ := sameAll_f (changesL a e1 e2) (by omega) (fun x hx => by have := k2 x hx; omega)
  refine walkPurged A0 c0 l e0 e1 e2 w hr hc (by omega) a ha (rightB a) _ (right_f a (by omega)) _ _ _ (purge_f a e0 (by omega)) (fun hm hrt => ?_) (by unfold recover_Changes.f; rw [if_pos hka]) K (hK K (Nat.le_refl _))
  unfold recover_Changes.f
  rw [if_pos hkp, purge_same a hka hone hrt e0 e1 e2 (by omega) h1]
end Go.Proofs.Ytfepfpcilmaojaa.QV
