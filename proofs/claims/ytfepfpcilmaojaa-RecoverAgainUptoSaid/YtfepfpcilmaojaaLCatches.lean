/- The plain law of RecoverCatches. -/
import Derived.Test.YtfepfpcilmaojaaQVx6
import Derived.Test.YtfepfpcilmaojaaLMissing
import Derived.Test.YtfepfpcilmaojaaLROrder
import Derived.Test.YtfepfpcilmaojaaROpen
namespace Go.Proofs.Ytfepfpcilmaojaa.QV
open Go.RowKit Go.Proofs.YtfepfpcilmaojaaW.PrintWords Go.Proofs.Ytfepfpcilmaojaa.Mp
set_option linter.unusedVariables false
set_option linter.unusedSimpArgs false
theorem told_one {F : Nm → Option Ver} {L : List Ver} (h : IsTold F L) : L.Pairwise (fun x y => x.f0 ≠ y.f0) := h.1.imp (fun {a b} h e => by rw [e, cmpNm_neg] at h; omega)
/-- The firsts of what is told: the map again. -/
theorem told_first {F : Nm → Option Ver} {L : List Ver} (h : IsTold F L) (hFk : ∀ k x, F k = some x → x.f0 = k) (hN : ∀ k, (F k).isSome = true → Nok k) : firstOf L = F := by
  funext k
  refine Option.ext fun x => ?_
  rw [first_iff L (told_one h)]
  constructor
  · rintro ⟨hx, rfl⟩; exact (h.2.1 x hx).2
  · intro hx
    obtain ⟨y, hy, e⟩ := h.2.2 k (hN k (by rw [hx]; rfl)) (by rw [hx]; rfl)
    have := (h.2.1 y hy).2
    rw [e, hx] at this
    cases this
    exact ⟨hy, e⟩
theorem filter_first (L : List Ver) (hL : L.Pairwise (fun x y => x.f0 ≠ y.f0)) (p : Ver → Bool) (k : Nm) : firstOf (L.filter p) k = (firstOf L k).filter p := by
  refine Option.ext fun x => ?_
  rw [first_iff _ (hL.filter p), List.mem_filter, Option.filter_eq_some_iff, first_iff L hL]
  constructor
  · rintro ⟨⟨h1, h2⟩, h3⟩; exact ⟨⟨h1, h3⟩, h2⟩
  · rintro ⟨⟨h1, h3⟩, h2⟩; exact ⟨⟨h1, h2⟩, h3⟩
theorem uptoF_nok (l : List Ver) (h : ∀ x ∈ l, Nok x.f0) (ep : Int) (k : Nm) (hs : (uptoF l ep k).isSome = true) : Nok k := by
  obtain ⟨x, hx, e⟩ := List.mem_map.1 (uptoF_names l ep k hs)
  rw [← e]; exact h x hx
theorem first_upto (l : List Ver) (h : ∀ x ∈ l, Nok x.f0) (ep : Int) : firstOf (uptoL l ep) = uptoF l ep := told_first (uptoL_is l ep h) (uptoF_f0 l ep) (uptoF_nok l h ep)
theorem first_changes (l : List Ver) (h : ∀ x ∈ l, Nok x.f0) (since ep : Int) (k : Nm) : firstOf (changesL l since ep) k = (uptoF l ep k).filter (fun x => !oldP since x) := by
  unfold changesL
  rw [filter_first _ (told_one (uptoL_is l ep h)), first_upto l h]
theorem nok_nonneg {k : Nm} (h : Nok k) : 0 ≤ k.f0 := by
  have := h.1
  unfold Lit.wf at this
  rw [Bool.and_eq_true] at this
  exact of_decide_eq_true this.1
theorem okV_uptoL (l : List Ver) (h : okV l = true) (ep : Int) : okV (uptoL l ep) = true := by
  obtain ⟨h1, h2, h3⟩ := (okV_iff l).1 h
  have hI := uptoL_is l ep h1
  refine (okV_iff _).2 ⟨fun x hx => (hI.2.1 x hx).1, told_row hI fun k x hx => ?_, ?_⟩
  · obtain ⟨y, hy, e⟩ := uptoF_row l ep k x hx
    rw [e]; exact h2 y hy
  · have := toldL_len (uptoF l ep) (l.map (·.f0))
    have h4 := nmsL_len (l.map (·.f0))
    rw [List.length_map] at h4
    have h5 : (uptoL l ep).length ≤ l.length := Nat.le_trans this h4
    omega
theorem uptoL_names (l : List Ver) (ep : Int) (hok : ∀ x ∈ l, Nok x.f0) : ∀ k ∈ (uptoL l ep).map (·.f0), k ∈ l.map (·.f0) := fun k hk => by
  obtain ⟨x, hx, rfl⟩ := List.mem_map.1 hk
  exact uptoF_names l ep x.f0 (by rw [((uptoL_is l ep hok).2.1 x hx).2]; rfl)
theorem okV_changesL (l : List Ver) (h : okV l = true) (since ep : Int) : okV (changesL l since ep) = true :=
  okV_sub (okV_uptoL l h ep) (fun x hx => (List.mem_filter.1 hx).1) (List.length_filter_le _ _)
theorem changesL_names (l : List Ver) (since ep : Int) (hok : ∀ x ∈ l, Nok x.f0) : ∀ k ∈ (changesL l since ep).map (·.f0), k ∈ l.map (·.f0) := fun k hk => by
  obtain ⟨x, hx, rfl⟩ := List.mem_map.1 hk
  exact uptoL_names l ep hok _ (List.mem_map.2 ⟨x, (List.mem_filter.1 hx).1, rfl⟩)
/-- What there was up to an epoch, and the changes since: what there is up to the later one. -/
theorem catch_one (l : List Ver) (h : okV l = true) (e0 e2 : Int) (h0 : 0 ≤ e0) (h02 : e0 ≤ e2) : mergedL (uptoL l e0) (changesL l e0 e2) = uptoL l e2 := by
  obtain ⟨h1, h2, h3⟩ := (okV_iff l).1 h
  have hu := ((okV_iff _).1 (okV_uptoL l h e0)).1
  have hc := ((okV_iff _).1 (okV_changesL l h e0 e2)).1
  have e : mergedF (uptoL l e0) (changesL l e0 e2) = uptoF l e2 := by
    funext k
    unfold mergedF
    rw [first_upto l h1, first_changes l h1]
    unfold uptoF
    cases hk : firstOf l k with
    | none => simp
    | some v =>
      have hv0 := firstOf_f0 l k v hk
      obtain ⟨⟨n0, n1⟩, row, d⟩ := v
      subst hv0
      simp only [Option.map_some]
      by_cases c0 : e0 < n0 <;> by_cases c2 : e2 < n0 <;> by_cases d0 : e0 < d <;> by_cases d2 : e2 < d <;> by_cases dz : d = 0 <;>
        first
        | omega
        | (simp [c0, c2, d0, d2, asOf, oldP, mergeV, Option.filter, h0, dz] <;> omega)
        | (simp [c0, c2, d0, d2, asOf, oldP, mergeV, Option.filter, h0, dz]; done)
        | (simp [c0, c2, d0, d2, asOf, oldP, mergeV, Option.filter, h0, dz, Int.not_lt.1 c0, Int.not_lt.1 d0]; done)
        | (simp [c0, c2, d0, d2, asOf, oldP, mergeV, Option.filter, h0, dz]; split <;> simp_all <;> omega)
  exact told_eq (e ▸ mergedL_is _ _ hu hc) (uptoL_is l e2 h1)
/-- All the changes, where nothing came at epoch 0. -/
theorem catch_whole (l : List Ver) (h : okV l = true) (e2 : Int) (hn : ∀ x ∈ uptoL l e2, x.f0.f0 ≠ 0) : mergedL [] (changesL l 0 e2) = uptoL l e2 := by
  obtain ⟨h1, h2, h3⟩ := (okV_iff l).1 h
  have hI := uptoL_is l e2 h1
  have hc := ((okV_iff _).1 (okV_changesL l h 0 e2)).1
  have e : mergedF [] (changesL l 0 e2) = uptoF l e2 := by
    funext k
    have e0 : mergedF [] (changesL l 0 e2) k = firstOf (changesL l 0 e2) k := rfl
    rw [e0, first_changes l h1]
    cases hk : uptoF l e2 k with
    | none => rfl
    | some x =>
      have hN := uptoF_nok l h1 e2 k (by rw [hk]; rfl)
      have hx0 := uptoF_f0 l e2 k x hk
      obtain ⟨y, hy, ey⟩ := hI.2.2 k hN (by rw [hk]; rfl)
      have hy2 := (hI.2.1 y hy).2
      rw [ey, hk] at hy2
      cases hy2
      have := hn x hy
      have hp := nok_nonneg hN
      rw [hx0] at this
      have : oldP 0 x = false := by
        unfold oldP
        rw [hx0]
        have : ¬ k.f0 ≤ 0 := by omega
        simp [this]
      simp [Option.filter, this]
  exact told_eq (e ▸ mergedL_is _ _ (fun x hx => by simp at hx) hc) hI
def rightB (l : List Ver) : Bool := l.all (fun v => decide (v.f2 = 0) || !decide (v.f2 ≤ v.f0.f0))
theorem right_l0 (l : List Ver) (hl : l.length < 9223372036854775807) : ∀ (n i : Nat), i + n = l.length → hayloftlaw18_right.l0 (n + 1) l (l.length : Int) i = some (rightB (l.drop i)) := by
  intro n
  induction n with
  | zero =>
    intro i hi
    rw [Nat.add_zero] at hi
    subst hi
    rw [hayloftlaw18_right.l0, if_neg (by omega), List.drop_length]
    rfl
  | succ n ih =>
    intro i hi
    have hil : i < l.length := by omega
    have hw : wrap64 ((i : Int) + 1) = ((i + 1 : Nat) : Int) := by rw [wrap_succ i (by omega)]; rfl
    have hg : rd_T34 l (i : Int) = l[i] := by rw [rdVer, List.getD_eq_getElem?_getD, List.getElem?_eq_getElem hil]; rfl
    rw [hayloftlaw18_right.l0, if_pos (by omega), if_pos (Int.natCast_nonneg i), if_pos (by omega), hw, hg, List.drop_eq_getElem_cons hil, ih (i + 1) (by omega)]
    have hh : rightB (l[i] :: l.drop (i + 1)) = ((decide (l[i].f2 = 0) || !decide (l[i].f2 ≤ l[i].f0.f0)) && rightB (l.drop (i + 1))) := rfl
    rw [hh]
    by_cases h1 : l[i].f2 = 0
    · rw [if_pos h1]; simp [h1]
    · rw [if_neg h1]
      by_cases h2 : l[i].f2 ≤ l[i].f0.f0
      · rw [if_pos h2]; simp [h1, h2]
      · rw [if_neg h2]; simp [h2]
theorem right_f (l : List Ver) (hl : l.length < 9223372036854775807) : hayloftlaw18_right.f (l.length + 1) l = some (rightB l) := by
  unfold hayloftlaw18_right.f
  exact right_l0 l hl l.length 0 (by omega)
end Go.Proofs.Ytfepfpcilmaojaa.QV
/- The walk of RecoverCatches. -/
namespace Go.Proofs.Ytfepfpcilmaojaa.QV
open Go.RowKit Go.Proofs.YtfepfpcilmaojaaW.PrintWords Go.Proofs.Ytfepfpcilmaojaa.Mp Go.Proofs.Ytfepfpcilmaojaa.SeqW
set_option linter.unusedVariables false
set_option linter.unusedSimpArgs false
set_option maxRecDepth 100000
def zeroB (l : List Ver) : Bool := l.any (fun v => v.f0.f0 == 0)
set_option maxHeartbeats 8000000 in
theorem walkCatches (A0 : Option Addr) (c0 : Nat) (l : List Ver) (e0 e1 e2 : Int) (w : World) (hr : kVer.C w A0 l.length l) (hc : l.length ≤ c0)
    (rb : Bool) (k0 : Nat) (hrb : hayloftlaw18_right.f k0 l = some rb)
    (want u0 c02 c01 u1 c12 c2 wh : List Ver) (hU2 : recover_Upto.f l e2 = some want) (hU0 : recover_Upto.f l e0 = some u0) (hC02 : recover_Changes.f l e0 e2 = some c02)
    (hM1 : ¬ e1 < e0 → ¬ e2 < e1 → recover_Merged.f u0 c02 = some want) (hC01 : recover_Changes.f l e0 e1 = some c01) (hM2 : recover_Merged.f u0 c01 = some u1) (hC12 : recover_Changes.f l e1 e2 = some c12)
    (hM3 : ¬ e1 < e0 → ¬ e2 < e1 → recover_Merged.f u1 c12 = some want) (hC2 : recover_Changes.f l 0 e2 = some c2) (hM4 : recover_Merged.f [] c2 = some wh)
    (k1 : Nat) (hS : hayloftref10_SameAll.f k1 want want = some true) (hS4 : zeroB want = false → wh = want) (hwl : want.length < 9223372036854775807) :
    Calls Try.prog 5 #[.slice A0 l.length c0, .agg #[.int .u64 e0, .int .u64 e1, .int .u64 e2]] w fun e w' => e = .returned (.bool true) ∧ Below w.heap.size w w' := by
  have al := alive18
  by_cases h1 : e1 < e0
  · go_enter Try.func5, Try.ntmps5
    go_wp2_with fail
    repeat (go_quiet (fail); try go_wp2_with fail)
    refine (hayloftlaw18_alive.calls true _ al).mono ?_
    rintro e wa ⟨rfl, hba⟩
    go_wp2_with fail
    go_ret
    exact ⟨rfl, btr' (by repeat (first | exact Below.refl _ _ | apply pw_below_drewN | apply below_alloc)) hba⟩
  by_cases h2 : e2 < e1
  · go_enter Try.func5, Try.ntmps5
    go_wp2_with fail
    repeat (go_quiet (fail); try go_wp2_with fail)
    refine (hayloftlaw18_alive.calls true _ al).mono ?_
    rintro e wa ⟨rfl, hba⟩
    go_wp2_with fail
    go_ret
    exact ⟨rfl, btr' (by repeat (first | exact Below.refl _ _ | apply pw_below_drewN | apply below_alloc)) hba⟩
  cases rb
  · go_enter Try.func5, Try.ntmps5
    go_wp2_with fail
    repeat (go_quiet (fail); try go_wp2_with fail)
    refine (hayloftlaw18_right.calls k0 A0 c0 l false _ (Kd.C_below hr (by repeat (first | exact Below.refl _ _ | apply pw_below_drewN | apply below_alloc))) hc hrb).mono ?_
    rintro e w1 ⟨rfl, hb1⟩
    have HB1 : Below w.heap.size w w1 := btr' (by repeat (first | exact Below.refl _ _ | apply pw_below_drewN | apply below_alloc)) hb1
    go_wp2_with fail
    refine (hayloftlaw18_alive.calls true _ al).mono ?_
    rintro e wa ⟨rfl, hba⟩
    go_wp2_with fail
    go_ret
    exact ⟨rfl, btr' HB1 hba⟩
  replace hM1 := hM1 h1 h2
  replace hM3 := hM3 h1 h2
  cases hz : zeroB want
  · go_enter Try.func5, Try.ntmps5
    go_wp2_with fail
    repeat (go_quiet (fail); try go_wp2_with fail)
    refine (hayloftlaw18_right.calls k0 A0 c0 l true _ (Kd.C_below hr (by repeat (first | exact Below.refl _ _ | apply pw_below_drewN | apply below_alloc))) hc hrb).mono ?_
    rintro e w1 ⟨rfl, hb1⟩
    have HB1 : Below w.heap.size w w1 := btr' (by repeat (first | exact Below.refl _ _ | apply pw_below_drewN | apply below_alloc)) hb1
    go_wp2_with fail
    refine (recover_Upto.calls A0 c0 l e2 want w1 (Kd.C_below hr HB1) hc hU2).mono ?_
    rintro e w2 ⟨v2, rfl, hs2, hb2⟩
    obtain ⟨Aw, cw, rfl, hlw, hCw⟩ := Kd.S_reads hs2
    have HB2 := btr' HB1 hb2
    go_wp2_with fail
    refine (recover_Upto.calls A0 c0 l e0 u0 w2 (Kd.C_below hr HB2) hc hU0).mono ?_
    rintro e w3 ⟨v3, rfl, hs3, hb3⟩
    obtain ⟨Au, cu, rfl, hlu, hCu⟩ := Kd.S_reads hs3
    have HB3 := btr' HB2 hb3
    replace hCw := Kd.C_below hCw hb3
    go_wp2_with fail
    refine (recover_Changes.calls A0 c0 l e0 e2 c02 w3 (Kd.C_below hr HB3) hc hC02).mono ?_
    rintro e w4 ⟨v4, rfl, hs4, hb4⟩
    obtain ⟨Ab, cb, rfl, hlb, hCb⟩ := Kd.S_reads hs4
    have HB4 := btr' HB3 hb4
    replace hCw := Kd.C_below hCw hb4
    replace hCu := Kd.C_below hCu hb4
    go_wp2_with fail
    refine (recover_Merged.calls Au cu u0 Ab cb c02 want w4 hCu hlu hCb hlb hM1).mono ?_
    rintro e w5 ⟨v5, rfl, hs5, hb5⟩
    obtain ⟨Ao, co, rfl, hlo, hCo⟩ := Kd.S_reads hs5
    have HB5 := btr' HB4 hb5
    replace hCw := Kd.C_below hCw hb5
    replace hCu := Kd.C_below hCu hb5
    replace hCb := Kd.C_below hCb hb5
    go_wp2_with fail
    refine (recover_Upto.calls A0 c0 l e0 u0 w5 (Kd.C_below hr HB5) hc hU0).mono ?_
    rintro e w6 ⟨v6, rfl, hs6, hb6⟩
    obtain ⟨Ap, cp, rfl, hlp, hCp⟩ := Kd.S_reads hs6
    have HB6 := btr' HB5 hb6
    replace hCw := Kd.C_below hCw hb6
    replace hCo := Kd.C_below hCo hb6
    go_wp2_with fail
    refine (recover_Changes.calls A0 c0 l e0 e1 c01 w6 (Kd.C_below hr HB6) hc hC01).mono ?_
    rintro e w7 ⟨v7, rfl, hs7, hb7⟩
    obtain ⟨Aq, cq, rfl, hlq, hCq⟩ := Kd.S_reads hs7
    have HB7 := btr' HB6 hb7
    replace hCw := Kd.C_below hCw hb7
    replace hCo := Kd.C_below hCo hb7
    replace hCp := Kd.C_below hCp hb7
    go_wp2_with fail
    refine (recover_Merged.calls Ap cp u0 Aq cq c01 u1 w7 hCp hlp hCq hlq hM2).mono ?_
    rintro e w8 ⟨v8, rfl, hs8, hb8⟩
    obtain ⟨Ar, cr, rfl, hlr, hCr⟩ := Kd.S_reads hs8
    have HB8 := btr' HB7 hb8
    replace hCw := Kd.C_below hCw hb8
    replace hCo := Kd.C_below hCo hb8
    replace hCp := Kd.C_below hCp hb8
    replace hCq := Kd.C_below hCq hb8
    go_wp2_with fail
    refine (recover_Changes.calls A0 c0 l e1 e2 c12 w8 (Kd.C_below hr HB8) hc hC12).mono ?_
    rintro e w9 ⟨v9, rfl, hs9, hb9⟩
    obtain ⟨As, cs, rfl, hls, hCs⟩ := Kd.S_reads hs9
    have HB9 := btr' HB8 hb9
    replace hCw := Kd.C_below hCw hb9
    replace hCo := Kd.C_below hCo hb9
    replace hCr := Kd.C_below hCr hb9
    go_wp2_with fail
    refine (recover_Merged.calls Ar cr u1 As cs c12 want w9 hCr hlr hCs hls hM3).mono ?_
    rintro e w10 ⟨v10, rfl, hs10, hb10⟩
    obtain ⟨At, ct, rfl, hlt_t, hCt⟩ := Kd.S_reads hs10
    have HB10 := btr' HB9 hb10
    replace hCw := Kd.C_below hCw hb10
    replace hCo := Kd.C_below hCo hb10
    replace hCr := Kd.C_below hCr hb10
    replace hCs := Kd.C_below hCs hb10
    go_wp2_with fail
    refine (recover_Changes.calls A0 c0 l 0 e2 c2 w10 (Kd.C_below hr HB10) hc hC2).mono ?_
    rintro e w11 ⟨v11, rfl, hs11, hb11⟩
    obtain ⟨Ax, cx, rfl, hlx, hCx⟩ := Kd.S_reads hs11
    have HB11 := btr' HB10 hb11
    replace hCw := Kd.C_below hCw hb11
    replace hCo := Kd.C_below hCo hb11
    replace hCt := Kd.C_below hCt hb11
    go_wp2_with fail
    refine (recover_Merged.calls none 0 [] Ax cx c2 wh w11 (Kd.C_nil _ _) (Nat.le_refl _) hCx hlx hM4).mono ?_
    rintro e w12 ⟨v12, rfl, hs12, hb12⟩
    obtain ⟨Ay, cy, rfl, hly, hCy⟩ := Kd.S_reads hs12
    have HB12 := btr' HB11 hb12
    replace hCw := Kd.C_below hCw hb12
    replace hCo := Kd.C_below hCo hb12
    replace hCt := Kd.C_below hCt hb12
    replace hCx := Kd.C_below hCx hb12
    go_wp2_with fail
    go_loopw [12, 65] (fun b i wr => ∃ k : Nat, k ≤ want.length ∧ b = .bool (zeroB (want.take k)) ∧ i = .int .i64 k ∧ Below w12.heap.size w12 wr) (fun _ i _ => want.length - (intOf i).toNat)
    case atStart => exact ⟨0, Nat.zero_le _, rfl, rfl, Below.refl _ _⟩
    case round =>
      obtain ⟨k, hk, rfl, rfl, hbr⟩ := hrel
      by_cases hlt : k < want.length
      · obtain ⟨ad, e, hc0', hc1', Ax', cx', hc2', _, _, hc3'⟩ := ver_at hCw k hlt
        replace hc0' := pw_cell_below hbr hc0'
        replace hc1' := pw_cell_below hbr hc1'
        replace hc2' := pw_cell_below hbr hc2'
        replace hc3' := pw_cell_below hbr hc3'
        subst e
        have hts := take_snoc' z34 want k hlt
        generalize want.getD k z34 = x at hc0' hc1' hc2' hc3' hts
        have hzs : zeroB (want.take (k + 1)) = (zeroB (want.take k) || (x.f0.f0 == 0)) := by rw [← hts]; simp [zeroB]
        cases hzk : zeroB (want.take k)
        · cases hxz : (x.f0.f0 == 0)
          · go_wp2_with fail
            go_roundw
            case rel => exact ⟨k + 1, by omega, by rw [hzs, hzk, hxz]; rfl, by go_num, by repeat (first | exact hbr | apply below_alloc)⟩
            case measure => simp [intOf]; omega
          · go_wp2_with fail
            go_roundw
            case rel => exact ⟨k + 1, by omega, by rw [hzs, hzk, hxz]; rfl, by go_num, by repeat (first | exact hbr | apply below_alloc)⟩
            case measure => simp [intOf]; omega
        · go_wp2_with fail
          go_roundw
          case rel => exact ⟨k + 1, by omega, by rw [hzs, hzk]; rfl, by go_num, by repeat (first | exact hbr | apply below_alloc)⟩
          case measure => simp [intOf]; omega
      · obtain rfl : k = want.length := by omega
        rw [List.take_length, hz]
        have HBr := btr' HB12 hbr
        replace hCw := Kd.C_below hCw hbr
        replace hCo := Kd.C_below hCo hbr
        replace hCt := Kd.C_below hCt hbr
        replace hCy := Kd.C_below hCy hbr
        go_wp2_with fail
        refine (hayloftlaw18_alive.calls true _ al).mono ?_
        rintro e w13 ⟨rfl, hb13⟩
        have HB13 := btr' HBr hb13
        replace hCw := Kd.C_below hCw hb13
        replace hCo := Kd.C_below hCo hb13
        replace hCt := Kd.C_below hCt hb13
        replace hCy := Kd.C_below hCy hb13
        go_wp2_with fail
        refine (hayloftref10_SameAll.calls k1 Ao co want Aw cw want true w13 hCo hlo hCw hlw hS).mono ?_
        rintro e w14 ⟨rfl, hb14⟩
        have HB14 := btr' HB13 hb14
        replace hCw := Kd.C_below hCw hb14
        replace hCt := Kd.C_below hCt hb14
        replace hCy := Kd.C_below hCy hb14
        go_wp2_with fail
        refine (hayloftref10_SameAll.calls k1 At ct want Aw cw want true w14 hCt hlt_t hCw hlw hS).mono ?_
        rintro e w15 ⟨rfl, hb15⟩
        have HB15 := btr' HB14 hb15
        replace hCw := Kd.C_below hCw hb15
        replace hCy := Kd.C_below hCy hb15
        obtain rfl := hS4 hz
        go_wp2_with fail
        refine (hayloftref10_SameAll.calls k1 Ay cy wh Aw cw wh true w15 hCy hly hCw hlw hS).mono ?_
        rintro e w16 ⟨rfl, hb16⟩
        go_wp2_with fail
        go_ret
        exact ⟨rfl, btr' HB15 hb16⟩
  · go_enter Try.func5, Try.ntmps5
    go_wp2_with fail
    repeat (go_quiet (fail); try go_wp2_with fail)
    refine (hayloftlaw18_right.calls k0 A0 c0 l true _ (Kd.C_below hr (by repeat (first | exact Below.refl _ _ | apply pw_below_drewN | apply below_alloc))) hc hrb).mono ?_
    rintro e w1 ⟨rfl, hb1⟩
    have HB1 : Below w.heap.size w w1 := btr' (by repeat (first | exact Below.refl _ _ | apply pw_below_drewN | apply below_alloc)) hb1
    go_wp2_with fail
    refine (recover_Upto.calls A0 c0 l e2 want w1 (Kd.C_below hr HB1) hc hU2).mono ?_
    rintro e w2 ⟨v2, rfl, hs2, hb2⟩
    obtain ⟨Aw, cw, rfl, hlw, hCw⟩ := Kd.S_reads hs2
    have HB2 := btr' HB1 hb2
    go_wp2_with fail
    refine (recover_Upto.calls A0 c0 l e0 u0 w2 (Kd.C_below hr HB2) hc hU0).mono ?_
    rintro e w3 ⟨v3, rfl, hs3, hb3⟩
    obtain ⟨Au, cu, rfl, hlu, hCu⟩ := Kd.S_reads hs3
    have HB3 := btr' HB2 hb3
    replace hCw := Kd.C_below hCw hb3
    go_wp2_with fail
    refine (recover_Changes.calls A0 c0 l e0 e2 c02 w3 (Kd.C_below hr HB3) hc hC02).mono ?_
    rintro e w4 ⟨v4, rfl, hs4, hb4⟩
    obtain ⟨Ab, cb, rfl, hlb, hCb⟩ := Kd.S_reads hs4
    have HB4 := btr' HB3 hb4
    replace hCw := Kd.C_below hCw hb4
    replace hCu := Kd.C_below hCu hb4
    go_wp2_with fail
    refine (recover_Merged.calls Au cu u0 Ab cb c02 want w4 hCu hlu hCb hlb hM1).mono ?_
    rintro e w5 ⟨v5, rfl, hs5, hb5⟩
    obtain ⟨Ao, co, rfl, hlo, hCo⟩ := Kd.S_reads hs5
    have HB5 := btr' HB4 hb5
    replace hCw := Kd.C_below hCw hb5
    replace hCu := Kd.C_below hCu hb5
    replace hCb := Kd.C_below hCb hb5
    go_wp2_with fail
    refine (recover_Upto.calls A0 c0 l e0 u0 w5 (Kd.C_below hr HB5) hc hU0).mono ?_
    rintro e w6 ⟨v6, rfl, hs6, hb6⟩
    obtain ⟨Ap, cp, rfl, hlp, hCp⟩ := Kd.S_reads hs6
    have HB6 := btr' HB5 hb6
    replace hCw := Kd.C_below hCw hb6
    replace hCo := Kd.C_below hCo hb6
    go_wp2_with fail
    refine (recover_Changes.calls A0 c0 l e0 e1 c01 w6 (Kd.C_below hr HB6) hc hC01).mono ?_
    rintro e w7 ⟨v7, rfl, hs7, hb7⟩
    obtain ⟨Aq, cq, rfl, hlq, hCq⟩ := Kd.S_reads hs7
    have HB7 := btr' HB6 hb7
    replace hCw := Kd.C_below hCw hb7
    replace hCo := Kd.C_below hCo hb7
    replace hCp := Kd.C_below hCp hb7
    go_wp2_with fail
    refine (recover_Merged.calls Ap cp u0 Aq cq c01 u1 w7 hCp hlp hCq hlq hM2).mono ?_
    rintro e w8 ⟨v8, rfl, hs8, hb8⟩
    obtain ⟨Ar, cr, rfl, hlr, hCr⟩ := Kd.S_reads hs8
    have HB8 := btr' HB7 hb8
    replace hCw := Kd.C_below hCw hb8
    replace hCo := Kd.C_below hCo hb8
    replace hCp := Kd.C_below hCp hb8
    replace hCq := Kd.C_below hCq hb8
    go_wp2_with fail
    refine (recover_Changes.calls A0 c0 l e1 e2 c12 w8 (Kd.C_below hr HB8) hc hC12).mono ?_
    rintro e w9 ⟨v9, rfl, hs9, hb9⟩
    obtain ⟨As, cs, rfl, hls, hCs⟩ := Kd.S_reads hs9
    have HB9 := btr' HB8 hb9
    replace hCw := Kd.C_below hCw hb9
    replace hCo := Kd.C_below hCo hb9
    replace hCr := Kd.C_below hCr hb9
    go_wp2_with fail
    refine (recover_Merged.calls Ar cr u1 As cs c12 want w9 hCr hlr hCs hls hM3).mono ?_
    rintro e w10 ⟨v10, rfl, hs10, hb10⟩
    obtain ⟨At, ct, rfl, hlt_t, hCt⟩ := Kd.S_reads hs10
    have HB10 := btr' HB9 hb10
    replace hCw := Kd.C_below hCw hb10
    replace hCo := Kd.C_below hCo hb10
    replace hCr := Kd.C_below hCr hb10
    replace hCs := Kd.C_below hCs hb10
    go_wp2_with fail
    refine (recover_Changes.calls A0 c0 l 0 e2 c2 w10 (Kd.C_below hr HB10) hc hC2).mono ?_
    rintro e w11 ⟨v11, rfl, hs11, hb11⟩
    obtain ⟨Ax, cx, rfl, hlx, hCx⟩ := Kd.S_reads hs11
    have HB11 := btr' HB10 hb11
    replace hCw := Kd.C_below hCw hb11
    replace hCo := Kd.C_below hCo hb11
    replace hCt := Kd.C_below hCt hb11
    go_wp2_with fail
    refine (recover_Merged.calls none 0 [] Ax cx c2 wh w11 (Kd.C_nil _ _) (Nat.le_refl _) hCx hlx hM4).mono ?_
    rintro e w12 ⟨v12, rfl, hs12, hb12⟩
    obtain ⟨Ay, cy, rfl, hly, hCy⟩ := Kd.S_reads hs12
    have HB12 := btr' HB11 hb12
    replace hCw := Kd.C_below hCw hb12
    replace hCo := Kd.C_below hCo hb12
    replace hCt := Kd.C_below hCt hb12
    replace hCx := Kd.C_below hCx hb12
    go_wp2_with fail
    go_loopw [12, 65] (fun b i wr => ∃ k : Nat, k ≤ want.length ∧ b = .bool (zeroB (want.take k)) ∧ i = .int .i64 k ∧ Below w12.heap.size w12 wr) (fun _ i _ => want.length - (intOf i).toNat)
    case atStart => exact ⟨0, Nat.zero_le _, rfl, rfl, Below.refl _ _⟩
    case round =>
      obtain ⟨k, hk, rfl, rfl, hbr⟩ := hrel
      by_cases hlt : k < want.length
      · obtain ⟨ad, e, hc0', hc1', Ax', cx', hc2', _, _, hc3'⟩ := ver_at hCw k hlt
        replace hc0' := pw_cell_below hbr hc0'
        replace hc1' := pw_cell_below hbr hc1'
        replace hc2' := pw_cell_below hbr hc2'
        replace hc3' := pw_cell_below hbr hc3'
        subst e
        have hts := take_snoc' z34 want k hlt
        generalize want.getD k z34 = x at hc0' hc1' hc2' hc3' hts
        have hzs : zeroB (want.take (k + 1)) = (zeroB (want.take k) || (x.f0.f0 == 0)) := by rw [← hts]; simp [zeroB]
        cases hzk : zeroB (want.take k)
        · cases hxz : (x.f0.f0 == 0)
          · go_wp2_with fail
            go_roundw
            case rel => exact ⟨k + 1, by omega, by rw [hzs, hzk, hxz]; rfl, by go_num, by repeat (first | exact hbr | apply below_alloc)⟩
            case measure => simp [intOf]; omega
          · go_wp2_with fail
            go_roundw
            case rel => exact ⟨k + 1, by omega, by rw [hzs, hzk, hxz]; rfl, by go_num, by repeat (first | exact hbr | apply below_alloc)⟩
            case measure => simp [intOf]; omega
        · go_wp2_with fail
          go_roundw
          case rel => exact ⟨k + 1, by omega, by rw [hzs, hzk]; rfl, by go_num, by repeat (first | exact hbr | apply below_alloc)⟩
          case measure => simp [intOf]; omega
      · obtain rfl : k = want.length := by omega
        rw [List.take_length, hz]
        have HBr := btr' HB12 hbr
        replace hCw := Kd.C_below hCw hbr
        replace hCo := Kd.C_below hCo hbr
        replace hCt := Kd.C_below hCt hbr
        replace hCy := Kd.C_below hCy hbr
        go_wp2_with fail
        refine (hayloftlaw18_alive.calls true _ al).mono ?_
        rintro e w13 ⟨rfl, hb13⟩
        have HB13 := btr' HBr hb13
        replace hCw := Kd.C_below hCw hb13
        replace hCo := Kd.C_below hCo hb13
        replace hCt := Kd.C_below hCt hb13
        replace hCy := Kd.C_below hCy hb13
        go_wp2_with fail
        refine (hayloftref10_SameAll.calls k1 Ao co want Aw cw want true w13 hCo hlo hCw hlw hS).mono ?_
        rintro e w14 ⟨rfl, hb14⟩
        have HB14 := btr' HB13 hb14
        replace hCw := Kd.C_below hCw hb14
        replace hCt := Kd.C_below hCt hb14
        replace hCy := Kd.C_below hCy hb14
        go_wp2_with fail
        refine (hayloftref10_SameAll.calls k1 At ct want Aw cw want true w14 hCt hlt_t hCw hlw hS).mono ?_
        rintro e w15 ⟨rfl, hb15⟩
        have HB15 := btr' HB14 hb15
        go_wp2_with fail
        go_ret
        exact ⟨rfl, HB15⟩
end Go.Proofs.Ytfepfpcilmaojaa.QV
/- RecoverCatches: the walk and the plain law, joined. -/
namespace Go.Proofs.Ytfepfpcilmaojaa.QV
open Go.RowKit Go.Proofs.YtfepfpcilmaojaaW.PrintWords Go.Proofs.Ytfepfpcilmaojaa.Mp Go.Proofs.Ytfepfpcilmaojaa.Op
set_option linter.unusedVariables false
/-- Three epochs. -/
theorem oThree : Opens Try.prog 39 (Kd.pair (Kd.int .u64) (Kd.pair (Kd.int .u64) (Kd.int .u64))) (fun x => (Lit.int .u64 x.1).wf = true ∧ (Lit.int .u64 x.2.1).wf = true ∧ (Lit.int .u64 x.2.2).wf = true) (fun _ => 1) :=
  opens_mono (fun _ h => h) (fun _ => by simp) (opens_array3 Try.underlying39 (by kernel_rfl) (by kernel_rfl) (opens_int Try.underlying23))
theorem three_open {w : World} {x : Int × Int × Int} {cs : List Value} (h : (Kd.pair (Kd.int .u64) (Kd.pair (Kd.int .u64) (Kd.int .u64))).K w x cs) : cs = [.int .u64 x.1, .int .u64 x.2.1, .int .u64 x.2.2] := by
  obtain ⟨_, _, rfl, rfl, _, _, rfl, rfl, rfl⟩ := h
  rfl
theorem wf_nonneg {n : Int} (h : (Lit.int .u64 n).wf = true) : 0 ≤ n := nok_nonneg (k := ⟨n, 0⟩) ⟨h, show (Lit.int .u32 0).wf = true by decide⟩
theorem merged_f (l u c : List Ver) (hl : okV l = true) (hu : okV u = true) (hc : okV c = true) (nu : ∀ k ∈ u.map (·.f0), k ∈ l.map (·.f0)) (nc : ∀ k ∈ c.map (·.f0), k ∈ l.map (·.f0)) : recover_Merged.f u c = some (mergedL u c) := by
  obtain ⟨h1, h2, h3⟩ := (okV_iff l).1 hl
  have hn : (nmsL (u.map (·.f0) ++ c.map (·.f0))).length ≤ l.length := by
    have hln : (l.map (fun x : Ver => x.f0)).length = l.length := List.length_map ..
    rw [← hln]
    exact nms_le _ _ (fun k hk => (List.mem_append.1 hk).elim (nu k) (nc k))
  unfold recover_Merged.f
  rw [if_pos ⟨hu, hc, by omega⟩]
theorem catches (A0 : Option Addr) (c0 : Nat) (l : List Ver) (e0 e1 e2 : Int) (w : World) (hr : kVer.C w A0 l.length l) (hc : l.length ≤ c0) (h : okV l = true) (h0 : 0 ≤ e0) (h1 : 0 ≤ e1) :
    Calls Try.prog 5 #[.slice A0 l.length c0, .agg #[.int .u64 e0, .int .u64 e1, .int .u64 e2]] w fun e w' => e = .returned (.bool true) ∧ Below w.heap.size w w' := by
  obtain ⟨o1, o2, o3⟩ := (okV_iff l).1 h
  have cU : ∀ e, recover_Upto.f l e = some (uptoL l e) := fun e => by unfold recover_Upto.f; rw [if_pos h]
  have cC : ∀ a e, recover_Changes.f l a e = some (changesL l a e) := fun a e => by unfold recover_Changes.f; rw [if_pos h]
  have kU := okV_uptoL l h
  have kC := okV_changesL l h
  have nU := fun e => uptoL_names l e o1
  have nC := fun a e => changesL_names l a e o1
  have m1 := merged_f l (uptoL l e0) (changesL l e0 e2) h (kU e0) (kC e0 e2) (nU e0) (nC e0 e2)
  have m2 := merged_f l (uptoL l e0) (changesL l e0 e1) h (kU e0) (kC e0 e1) (nU e0) (nC e0 e1)
  have m4 := merged_f l [] (changesL l 0 e2) h rfl (kC 0 e2) (fun k hk => by simp at hk) (nC 0 e2)
  have hlen : (uptoL l e2).length ≤ l.length := by
    have := toldL_len (uptoF l e2) (l.map (·.f0))
    have h4 := nmsL_len (l.map (·.f0))
    rw [List.length_map] at h4
    exact Nat.le_trans this h4
  obtain ⟨K, hK⟩ := sameAll_f (uptoL l e2) (by omega) (fun x hx => by have := ((okV_iff _).1 (kU e2)).2.1 x hx; omega)
  by_cases c1 : e1 < e0
  · exact walkCatches A0 c0 l e0 e1 e2 w hr hc _ _ (right_f l (by omega)) _ _ _ _ _ _ _ _ (cU e2) (cU e0) (cC e0 e2) (fun h => absurd c1 h) (cC e0 e1) m2 (cC e1 e2) (fun h => absurd c1 h) (cC 0 e2) m4 K (hK K (Nat.le_refl _))
      (fun hz => catch_whole l h e2 (fun x hx e => by
        have : zeroB (uptoL l e2) = true := by unfold zeroB; rw [List.any_eq_true]; exact ⟨x, hx, by simpa using e⟩
        rw [hz] at this; cases this)) (by omega)
  · have g1 := catch_one l h e0 e1 h0 (by omega)
    have m3 := merged_f l (uptoL l e1) (changesL l e1 e2) h (kU e1) (kC e1 e2) (nU e1) (nC e1 e2)
    rw [g1] at m2
    refine walkCatches A0 c0 l e0 e1 e2 w hr hc _ _ (right_f l (by omega)) _ _ _ _ _ _ _ _ (cU e2) (cU e0) (cC e0 e2) (fun _ h2 => ?_) (cC e0 e1) m2 (cC e1 e2) (fun _ h2 => ?_) (cC 0 e2) m4 K (hK K (Nat.le_refl _))
      (fun hz => catch_whole l h e2 (fun x hx e => by
        have : zeroB (uptoL l e2) = true := by unfold zeroB; rw [List.any_eq_true]; exact ⟨x, hx, by simpa using e⟩
        rw [hz] at this; cases this)) (by omega)
    · rw [m1, catch_one l h e0 e2 h0 (by omega)]
    · rw [m3, catch_one l h e1 e2 h1 (by omega)]
end Go.Proofs.Ytfepfpcilmaojaa.QV
