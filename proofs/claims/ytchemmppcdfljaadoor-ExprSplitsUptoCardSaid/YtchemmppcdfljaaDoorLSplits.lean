/- ExprSplits: the walk. -/
import Derived.Test.YtchemmppcdfljaaDoorSplit
import Derived.Test.YtchemmppcdfljaaDoorEq
namespace Go.Proofs.YtchemmppcdfljaaDoor.Op
open Go.RowKit Go.Proofs.YtchemmppcdfljaaDoorW.PrintWords
attribute [local go_sem high] eqV eqT
set_option linter.unusedVariables false

theorem termB_app (t : T) (a b : List V) (h : t.c < a.length) : termB t (a ++ b) = termB t a := by
  by_cases h0 : 0 ≤ t.c
  · have e : (a ++ b).getD t.c.toNat V.z = a.getD t.c.toNat V.z := by
      rw [List.getD_eq_getElem?_getD, List.getD_eq_getElem?_getD, List.getElem?_append_left (by omega)]
    rw [termB_in _ _ ⟨h0, by rw [List.length_append]; omega⟩, termB_in _ _ ⟨h0, h⟩, e]
  · rw [termB_out _ _ (fun h' => h0 h'.1), termB_out _ _ (fun h' => h0 h'.1)]
theorem termB_app' (t : T) (a b : List V) (h : ¬ t.c < a.length) (hb : t.c ≤ 9223372036854775807) : termB t (a ++ b) = termB ⟨wrap64 (t.c - a.length), t.o, t.v⟩ b := by
  have hw : wrap64 (t.c - a.length) = t.c - a.length := by unfold wrap64; omega
  rw [hw]
  by_cases h0 : t.c - a.length < b.length
  · have e : (a ++ b).getD t.c.toNat V.z = b.getD (t.c - a.length).toNat V.z := by
      rw [List.getD_eq_getElem?_getD, List.getD_eq_getElem?_getD, List.getElem?_append_right (by omega)]
      congr 2; omega
    rw [termB_in t _ ⟨by omega, by rw [List.length_append]; omega⟩, termB_in ⟨t.c - a.length, t.o, t.v⟩ _ ⟨by show 0 ≤ t.c - (a.length : Int); omega, h0⟩, e]
  · rw [termB_out t _ (fun h' => h0 (by have := h'.2; rw [List.length_append] at this; omega)), termB_out ⟨t.c - a.length, t.o, t.v⟩ _ (fun h' => h0 h'.2)]
theorem allB_split (a b : List V) : ∀ l : List T, (∀ t ∈ l, t.c ≤ 9223372036854775807) → allB l (a ++ b) = (allB (splitL l a.length) a && allB (splitR l a.length) b)
  | [], _ => rfl
  | t :: l, h => by
    have ih := allB_split a b l (fun x hx => h x (List.mem_cons_of_mem _ hx))
    have h1 : allB (t :: l) (a ++ b) = (termB t (a ++ b) && allB l (a ++ b)) := rfl
    rw [h1, ih]
    by_cases hc : t.c < a.length
    · have e1 : splitL (t :: l) a.length = t :: splitL l a.length := by unfold splitL; rw [List.filter_cons_of_pos (by simpa using hc)]
      have e2 : splitR (t :: l) a.length = splitR l a.length := by unfold splitR; rw [List.filter_cons_of_neg (by simpa using hc)]
      have e3 : allB (t :: splitL l a.length) a = (termB t a && allB (splitL l a.length) a) := rfl
      rw [e1, e2, e3, termB_app t a b hc, Bool.and_assoc]
    · have e1 : splitL (t :: l) a.length = splitL l a.length := by unfold splitL; rw [List.filter_cons_of_neg (by simpa using hc)]
      have e2 : splitR (t :: l) a.length = ⟨wrap64 (t.c - a.length), t.o, t.v⟩ :: splitR l a.length := by unfold splitR; rw [List.filter_cons_of_pos (by simpa using hc)]; rfl
      have e3 : allB (⟨wrap64 (t.c - a.length), t.o, t.v⟩ :: splitR l a.length) b = (termB ⟨wrap64 (t.c - a.length), t.o, t.v⟩ b && allB (splitR l a.length) b) := rfl
      rw [e1, e2, e3, termB_app' t a b hc (h t List.mem_cons_self)]
      cases termB ⟨wrap64 (t.c - a.length), t.o, t.v⟩ b <;> cases allB (splitL l a.length) a <;> rfl
theorem infoV : (Tryd.prog.info? 25).map (fun i => (i.zero, i.size, i.bytes)) = some (some (.agg #[.int .i64 0, .bool false, .int .i64 0, .string ByteArray.empty]), 4, 40) := by kernel_rfl

set_option maxHeartbeats 8000000 in
theorem walkSplits (Al : Option Addr) (l : List T) (cl : Nat) (A : Option Addr) (a : List V) (ca : Nat) (B : Option Addr) (b : List V) (cb : Nat) (w : World)
    (hl : kT.C w Al l.length l) (hcl : l.length ≤ cl) (ha : kV.C w A a.length a) (hca : a.length ≤ ca) (hb : kV.C w B b.length b) (hcb : b.length ≤ cb) (hT : Tab w)
    (hl1 : l.length ≤ 1048576) (ha1 : a.length ≤ 1048576) (hb1 : b.length ≤ 1048576) (hg : ∀ t ∈ l, t.c ≤ 9223372036854775807) :
    Calls Tryd.prog 7 #[.slice Al l.length cl, .slice A a.length ca, .slice B b.length cb] w fun e w' => e = .returned (.bool true) ∧ Below w.heap.size w w' := by
  have HG := Lib.hid hg
  clear hg
  go_enter Tryd.func7, Tryd.ntmps7
  go_wp2_with fail
  refine (split_any Al l cl _ _ hl hcl (by omega)).mono ?_
  rintro e w1 ⟨va, vb, rfl, hva, hvb, hB1⟩
  go_wp2_with fail
  refine (ref_split Al l cl _ _ (Kd.C_below hl hB1) hcl (by omega)).mono ?_
  rintro e w2 ⟨vx, vy, rfl, hvx, hvy, hb2⟩
  have hB2 := hB1.trans (hb2.mono hB1.size)
  obtain ⟨Aa, c1, rfl, hc1, hCa⟩ := Kd.R_reads hva
  obtain ⟨Ab, c2, rfl, hc2, hCb⟩ := Kd.R_reads hvb
  obtain ⟨Ax, c3, rfl, hc3, hCx⟩ := Kd.R_reads hvx
  obtain ⟨Ay, c4, rfl, hc4, hCy⟩ := Kd.R_reads hvy
  replace hCa := Kd.C_below hCa hb2
  replace hCb := Kd.C_below hCb hb2
  clear hva hvb hvx hvy hb2 hB1
  have hAll := Lib.hid (allB_split a b l HG.out)
  generalize hP : splitL l a.length = p at *
  generalize hQ : splitR l a.length = q at *
  clear hP hQ
  have hmp := hCa.2.1
  have hmq := hCb.2.1
  go_wp2_with fail
  refine (alive_any _ (hT.below hB2)).mono ?_
  rintro e w3 ⟨rfl, hb3⟩
  have hB3 := hB2.trans (hb3.mono hB2.size)
  replace hCa := Kd.C_below hCa hb3
  replace hCb := Kd.C_below hCb hb3
  replace hCx := Kd.C_below hCx hb3
  replace hCy := Kd.C_below hCy hb3
  clear hb3 hB2
  go_wp2_with fail
  go_loopw [47, 11] (fun i s wr => ∃ (j : Nat) (sb : Bool), i = .int .i64 j ∧ s = .bool sb ∧ j ≤ p.length ∧ Below w3.heap.size w3 wr) (fun i _ _ => p.length - (intOf i).toNat)
  case atStart => exact ⟨0, false, rfl, rfl, Nat.zero_le _, Below.refl _ _⟩
  case round =>
  obtain ⟨j, sb, rfl, rfl, hj, hB4⟩ := hrel
  by_cases hlt : j < p.length
  · obtain ⟨ad, rfl, hv⟩ := kT_at (Kd.C_below hCa hB4) j hlt
    obtain ⟨ad', rfl, hv'⟩ := kT_at (Kd.C_below hCx hB4) j hlt
    generalize p.getD j T.z = x at hv hv'
    obtain ⟨tc, o, ⟨k', b', i', s'⟩⟩ := x
    obtain ⟨hblt, hv0, hv1, hv2, hv3, hv4, hv5⟩ := hv
    obtain ⟨hblt', hw0, hw1, hw2, hw3, hw4, hw5⟩ := hv'
    simp only at hv0 hv1 hv2 hv3 hv4 hv5 hw0 hw1 hw2 hw3 hw4 hw5
    go_wp2
    go_quiet (fail)
    by_cases hneg : tc < 0
    all_goals cases sb
    all_goals
      go_wp2
      go_roundw
      case rel => exact ⟨j + 1, _, by go_num, rfl, by omega, pw_below_drewN hB4 nq⟩
      case measure => simp [intOf]; omega
  · obtain rfl : j = p.length := by omega
    go_wp2
    go_loopw [71] (fun i wr => ∃ (j : Nat), i = .int .i64 j ∧ j ≤ q.length ∧ Below w3.heap.size w3 wr) (fun i _ => q.length - (intOf i).toNat)
    case atStart => exact ⟨0, rfl, Nat.zero_le _, hB4⟩
    case round =>
    obtain ⟨j, rfl, hj, hB5⟩ := hrel
    clear hB4
    by_cases hlt : j < q.length
    · obtain ⟨ad, rfl, hv⟩ := kT_at (Kd.C_below hCb hB5) j hlt
      obtain ⟨ad', rfl, hv'⟩ := kT_at (Kd.C_below hCy hB5) j hlt
      generalize q.getD j T.z = x at hv hv'
      obtain ⟨tc, o, ⟨k', b', i', s'⟩⟩ := x
      obtain ⟨hblt, hv0, hv1, hv2, hv3, hv4, hv5⟩ := hv
      obtain ⟨hblt', hw0, hw1, hw2, hw3, hw4, hw5⟩ := hv'
      simp only at hv0 hv1 hv2 hv3 hv4 hv5 hw0 hw1 hw2 hw3 hw4 hw5
      go_wp2
      go_quiet (fail)
      go_wp2
      go_roundw
      case rel => exact ⟨j + 1, by go_num, by omega, pw_below_drewN hB5 nq⟩
      case measure => simp [intOf]; omega
    · obtain rfl : j = q.length := by omega
      have hB6 := hB3.trans (hB5.mono hB3.size)
      replace hCa := Kd.C_below hCa hB5
      replace hCb := Kd.C_below hCb hB5
      clear hCx hCy hB5 hB3
      have hz0 : w.heap.size ≤ wr.heap.size := hB6.size
      cases sb
      · go_wp2_with (first | (at_builtin; refine Kd.R_append_rows kV (w0 := wr) wr.heap.size rfl (.tmp 84) (.tmp 85) 23 25 _ 40 rfl Tryd.underlying23 infoV rfl (by decide) (by decide) (.slice (some ⟨wr.heap.size, 0, none⟩) 0 0) [] a A a.length ca (fun _ => True) (fun _ => False) rfl rfl (R_empty kV _ _ _ _ (Nat.le_refl _) trivial) (Kd.C_below ha (below_alloc hB6 _)) (fun x cs h => kV_KM x cs h) (fun _ h => h.elim) (fun _ _ => trivial) (below_alloc (Below.refl _ _) _) (by simp) (by simp; omega) ?_; intro v1 w4 hv1 hB7 hg7 hat7; clear hg7 hat7) | (at_builtin; refine Kd.R_append_rows kV (w0 := wr) wr.heap.size rfl (.tmp 86) (.tmp 87) 23 25 _ 40 rfl Tryd.underlying23 infoV rfl (by decide) (by decide) v1 ([] ++ a) b B b.length cb (fun _ => True) (fun _ => False) rfl rfl hv1 (Kd.C_below hb (hB6.trans (hB7.mono hB6.size))) (fun x cs h => kV_KM x cs h) (fun _ h => h.elim) (fun _ _ => trivial) hB7 hB7.size (by simp; omega) ?_; intro v2 w5 hv2 hB8 hg8 hat8; clear hg8 hat8 hv1; obtain ⟨Ar, cr, rfl, hcr, hCr⟩ := Kd.R_reads hv2; clear hv2) | fail)
        simp only [List.nil_append] at hCr hcr
        rw [← List.length_append]
        replace hCa := Kd.C_below hCa hB8
        replace hCb := Kd.C_below hCb hB8
        have hB8w := hB6.trans (hB8.mono hB6.size)
        refine (all_any Al l cl Ar (a ++ b) cr _ (Kd.C_below hl hB8w) hcl hCr hcr (hT.below hB8w)).mono ?_
        rintro e w6 ⟨rfl, hb6⟩
        have hB9 := hB8w.trans (hb6.mono hB8w.size)
        replace hCa := Kd.C_below hCa hb6
        replace hCb := Kd.C_below hCb hb6
        cases h1 : allB p a
        · have H1 := Lib.hid h1
          have H0 := Lib.hid (show allB l (a ++ b) = false by rw [hAll.out, h1]; rfl)
          clear h1
          rw [H0.out]
          go_wp2_with fail
          refine (all_any Aa p c1 A a ca _ hCa hc1 (Kd.C_below ha hB9) hca (hT.below hB9)).mono ?_
          rintro e w7 ⟨rfl, hb7⟩
          rw [H1.out]
          go_wp2
          go_ret
          exact ⟨rfl, hB9.trans (hb7.mono hB9.size)⟩
        · have H1 := Lib.hid h1
          have H0 := Lib.hid (show allB l (a ++ b) = allB q b by rw [hAll.out, h1]; rfl)
          clear h1
          rw [H0.out]
          go_wp2_with fail
          refine (all_any Aa p c1 A a ca _ hCa hc1 (Kd.C_below ha hB9) hca (hT.below hB9)).mono ?_
          rintro e w7 ⟨rfl, hb7⟩
          rw [H1.out]
          have hB10 := hB9.trans (hb7.mono hB9.size)
          replace hCb := Kd.C_below hCb hb7
          go_wp2_with fail
          refine (all_any Ab q c2 B b cb _ hCb hc2 (Kd.C_below hb hB10) hcb (hT.below hB10)).mono ?_
          rintro e w8 ⟨rfl, hb8⟩
          go_wp2
          go_ret
          exact ⟨ret_bool (by simp), hB10.trans (hb8.mono hB10.size)⟩
      · go_wp2_with (first | (at_builtin; refine Kd.R_append_rows kV (w0 := wr) wr.heap.size rfl (.tmp 84) (.tmp 85) 23 25 _ 40 rfl Tryd.underlying23 infoV rfl (by decide) (by decide) (.slice (some ⟨wr.heap.size, 0, none⟩) 0 0) [] a A a.length ca (fun _ => True) (fun _ => False) rfl rfl (R_empty kV _ _ _ _ (Nat.le_refl _) trivial) (Kd.C_below ha (below_alloc hB6 _)) (fun x cs h => kV_KM x cs h) (fun _ h => h.elim) (fun _ _ => trivial) (below_alloc (Below.refl _ _) _) (by simp) (by simp; omega) ?_; intro v1 w4 hv1 hB7 hg7 hat7; clear hg7 hat7) | (at_builtin; refine Kd.R_append_rows kV (w0 := wr) wr.heap.size rfl (.tmp 86) (.tmp 87) 23 25 _ 40 rfl Tryd.underlying23 infoV rfl (by decide) (by decide) v1 ([] ++ a) b B b.length cb (fun _ => True) (fun _ => False) rfl rfl hv1 (Kd.C_below hb (hB6.trans (hB7.mono hB6.size))) (fun x cs h => kV_KM x cs h) (fun _ h => h.elim) (fun _ _ => trivial) hB7 hB7.size (by simp; omega) ?_; intro v2 w5 hv2 hB8 hg8 hat8; clear hg8 hat8 hv1; obtain ⟨Ar, cr, rfl, hcr, hCr⟩ := Kd.R_reads hv2; clear hv2) | fail)
        go_wp2
        go_ret
        exact ⟨rfl, hB6.trans (hB8.mono hB6.size)⟩
end Go.Proofs.YtchemmppcdfljaaDoor.Op
