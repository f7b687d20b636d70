/- RecoverAgain: the walk. -/
import Derived.Test.YtfepfpcilmaojaaLAgain
import Derived.Test.YtfepfpcilmaojaaQVx1
namespace Go.Proofs.Ytfepfpcilmaojaa.QV
open Go.RowKit Go.Proofs.YtfepfpcilmaojaaW.PrintWords Go.Proofs.Ytfepfpcilmaojaa.Mp Go.Proofs.Ytfepfpcilmaojaa.SeqW
set_option linter.unusedVariables false
set_option linter.unusedSimpArgs false
set_option maxRecDepth 100000
attribute [local go_sem high] eqA31
theorem nm_eq (a b : Nm) : (a.f0 == b.f0 && (a.f1 == b.f1)) = decide (a = b) := by
  by_cases e : a = b
  · rw [e]; simp
  · have : ¬ (a.f0 = b.f0 ∧ a.f1 = b.f1) := fun h => e (Nm.ext' h.1 h.2)
    simp only [e, decide_false]
    rw [Bool.and_eq_false_iff, beq_eq_false_iff_ne, beq_eq_false_iff_ne]
    omega
theorem keep_c8 {w W w1 : World} {a0 a1 a2 a3 a4 a5 a6 a7 : Addr} {v0 v1 v2 v3 v4 v5 v6 v7 : Value} (hb : Below W.heap.size W w1) (q : W.cell? a0 = some v0 ∧ W.cell? a1 = some v1 ∧ W.cell? a2 = some v2 ∧ W.cell? a3 = some v3 ∧ W.cell? a4 = some v4 ∧ W.cell? a5 = some v5 ∧ W.cell? a6 = some v6 ∧ W.cell? a7 = some v7 ∧ Below w.heap.size w W) : w1.cell? a0 = some v0 ∧ w1.cell? a1 = some v1 ∧ w1.cell? a2 = some v2 ∧ w1.cell? a3 = some v3 ∧ w1.cell? a4 = some v4 ∧ w1.cell? a5 = some v5 ∧ w1.cell? a6 = some v6 ∧ w1.cell? a7 = some v7 ∧ Below w.heap.size w w1 :=
  ⟨pw_cell_below hb q.1, pw_cell_below hb q.2.1, pw_cell_below hb q.2.2.1, pw_cell_below hb q.2.2.2.1, pw_cell_below hb q.2.2.2.2.1, pw_cell_below hb q.2.2.2.2.2.1, pw_cell_below hb q.2.2.2.2.2.2.1, pw_cell_below hb q.2.2.2.2.2.2.2.1, q.2.2.2.2.2.2.2.2.trans (hb.mono q.2.2.2.2.2.2.2.2.size)⟩
theorem below_c8 {w W : World} {a0 a1 a2 a3 a4 a5 a6 a7 : Addr} {v0 v1 v2 v3 v4 v5 v6 v7 : Value} (q : W.cell? a0 = some v0 ∧ W.cell? a1 = some v1 ∧ W.cell? a2 = some v2 ∧ W.cell? a3 = some v3 ∧ W.cell? a4 = some v4 ∧ W.cell? a5 = some v5 ∧ W.cell? a6 = some v6 ∧ W.cell? a7 = some v7 ∧ Below w.heap.size w W) : Below w.heap.size w W := q.2.2.2.2.2.2.2.2
set_option maxHeartbeats 8000000 in
theorem walkAgain (A0 : Option Addr) (c0 : Nat) (h : List Ver) (A1 : Option Addr) (c1 : Nat) (m : List Ver) (A2 : Option Addr) (c2 : Nat) (o : List Ver) (w : World) (hr0 : kVer.C w A0 h.length h) (hc0 : h.length ≤ c0) (hr1 : kVer.C w A1 m.length m) (hc1 : m.length ≤ c1) (hr2 : kVer.C w A2 o.length o) (hc2 : o.length ≤ c2)
    (hml : m.length < 9223372036854775807) (hol : o.length < 9223372036854775807) (hmr : ∀ x ∈ m, x.f1.length < 9223372036854775807) (hor : ∀ x ∈ o, x.f1.length < 9223372036854775807)
    (one : List Ver) (hM1 : recover_Merged.f h m = some one) (hM2 : recover_Merged.f one m = some one) (k1 : Nat) (hS1 : hayloftref10_SameAll.f k1 one one = some true)
    (hfin : (∀ x ∈ m, ∀ y ∈ o, x.f0 = y.f0 → x = y) → ∃ ho fin k2, recover_Merged.f one o = some fin ∧ recover_Merged.f h o = some ho ∧ recover_Merged.f ho m = some fin ∧ hayloftref10_SameAll.f k2 fin fin = some true) :
    Calls Try.prog 7 #[.slice A0 h.length c0, .slice A1 m.length c1, .slice A2 o.length c2] w fun e w' => e = .returned (.bool true) ∧ Below w.heap.size w w' := by
  have al := alive18
  have HF := Lib.hid hfin
  clear hfin
  go_enter Try.func7, Try.ntmps7
  go_wp2_with fail
  refine (recover_Merged.calls A0 c0 h A1 c1 m one _ hr0 hc0 hr1 hc1 hM1).mono ?_
  rintro e w1 ⟨v1, rfl, hs1, HB1⟩
  obtain ⟨Ao, co, rfl, hlo, hCo⟩ := Kd.S_reads hs1
  go_wp2_with fail
  refine (hayloftlaw18_alive.calls true _ al).mono ?_
  rintro e w2 ⟨rfl, hb2⟩
  have HB2 := btr' HB1 hb2
  replace hCo := Kd.C_below hCo hb2
  go_wp2_with fail
  refine (recover_Merged.calls Ao co one A1 c1 m one w2 hCo hlo (Kd.C_below hr1 HB2) hc1 hM2).mono ?_
  rintro e w3 ⟨v3, rfl, hs3, hb3⟩
  obtain ⟨At, ct, rfl, hlt3, hCt⟩ := Kd.S_reads hs3
  have HB3 := btr' HB2 hb3
  replace hCo := Kd.C_below hCo hb3
  go_wp2_with fail
  refine (hayloftref10_SameAll.calls k1 At ct one Ao co one true w3 hCt hlt3 hCo hlo hS1).mono ?_
  rintro e w4 ⟨rfl, hb4⟩
  have HB4 := btr' HB3 hb4
  replace hCo := Kd.C_below hCo hb4
  go_wp2_with fail
  go_loopw [31] (fun i wr => ∃ k : Nat, k ≤ m.length ∧ i = .int .i64 k ∧ (∀ x ∈ m.take k, ∀ y ∈ o, x.f0 = y.f0 → x = y) ∧ Below w4.heap.size w4 wr) (fun i _ => m.length - (intOf i).toNat)
  case atStart => exact ⟨0, Nat.zero_le _, rfl, fun x hx => by simp at hx, Below.refl _ _⟩
  case round =>
    obtain ⟨k, hk, rfl, hcons, hbr⟩ := hrel
    have HBr := btr' HB4 hbr
    by_cases hlt : k < m.length
    · obtain ⟨ad, e, q0, q1, Ax, cx, q2, hlx, hCx, q3⟩ := ver_at hr1 k hlt
      replace q0 := pw_cell_below HBr q0
      replace q1 := pw_cell_below HBr q1
      replace q2 := pw_cell_below HBr q2
      replace q3 := pw_cell_below HBr q3
      subst e
      have hts := take_snoc' z34 m k hlt
      have hxm := getD_mem z34 hlt
      generalize m.getD k z34 = x at q0 q1 q2 q3 hlx hCx hts hxm
      have hBx : Below wr.heap.size wr (wr.alloc (.cells #[.int .u64 x.f0.f0, .int .u32 x.f0.f1, .slice Ax x.f1.length cx, .int .u64 x.f2] tVer)) := below_alloc (Below.refl _ _) _
      have hbx := blk_new wr (.cells #[.int .u64 x.f0.f0, .int .u32 x.f0.f1, .slice Ax x.f1.length cx, .int .u64 x.f2] tVer)
      go_wp2_with fail
      obtain ⟨W1, hW1⟩ : ∃ W1, wr.alloc (.cells #[.int .u64 x.f0.f0, .int .u32 x.f0.f1, .slice Ax x.f1.length cx, .int .u64 x.f2] tVer) = W1 := ⟨_, rfl⟩
      rw [hW1] at hBx hbx
      have HBW := btr' HBr hBx
      try rw [hW1]
      go_loopw [37] (fun i wq => ∃ j : Nat, j ≤ o.length ∧ i = .int .i64 j ∧ (∀ y ∈ o.take j, x.f0 = y.f0 → x = y) ∧ Below W1.heap.size W1 wq) (fun i _ => o.length - (intOf i).toNat)
      case atStart => exact ⟨0, Nat.zero_le _, rfl, fun x hx => by simp at hx, Below.refl _ _⟩
      case round =>
        obtain ⟨j, hj, rfl, hcj, hbq⟩ := hrel
        have HBq := btr' HBW hbq
        by_cases hjt : j < o.length
        · obtain ⟨ad', e, p0, p1, Ay, cy, p2, hly, hCy, p3⟩ := ver_at hr2 j hjt
          replace p0 := pw_cell_below HBq p0
          replace p1 := pw_cell_below HBq p1
          replace p2 := pw_cell_below HBq p2
          replace p3 := pw_cell_below HBq p3
          subst e
          have htj := take_snoc' z34 o j hjt
          generalize o.getD j z34 = y at p0 p1 p2 p3 hly hCy htj
          have hBy : Below wr.heap.size wr (wr.alloc (.cells #[.int .u64 y.f0.f0, .int .u32 y.f0.f1, .slice Ay y.f1.length cy, .int .u64 y.f2] tVer)) := below_alloc (Below.refl _ _) _
          have hbxq := blk_below (blk_below hbx hbq) hBy
          have x0 := blk_cell hbxq 0
          have x1 := blk_cell hbxq 1
          have x2 := blk_cell hbxq 2
          have x3 := blk_cell hbxq 3
          have hnext : (x.f0 = y.f0 → x = y) → ∀ z ∈ o.take (j + 1), x.f0 = z.f0 → x = z := fun hxy z hz => by
            rw [← htj] at hz
            rcases List.mem_append.1 hz with hz | hz
            · exact hcj z hz
            · rw [List.mem_singleton] at hz; subst hz; exact hxy
          cases hne : (x.f0.f0 == y.f0.f0 && (x.f0.f1 == y.f0.f1))
          · have hno : x.f0 ≠ y.f0 := fun e => by rw [nm_eq, e] at hne; simp at hne
            go_wp2_with fail
            go_roundw
            case rel => exact ⟨j + 1, by omega, by go_num, hnext (fun e => absurd e hno), btr' hbq hBy⟩
            case measure => simp [intOf]; omega
          · obtain ⟨r, hsame, hreq⟩ := same_any x y (hmr x hxm)
            go_wp2_with fail
            refine (hayloftref10_Same.calls (x.f1.length + 2) x.f0.f0 x.f0.f1 Ax cx x.f1 x.f2 y.f0.f0 y.f0.f1 Ay cy y.f1 y.f2 r _ (Kd.C_below hCx (btr' HBq hBy)) hlx (Kd.C_below hCy (btr' HBq hBy)) hly hsame).mono ?_
            rintro e w5 ⟨rfl, hb5⟩
            cases r with
            | true =>
              have hxy := Lib.hid (hreq rfl)
              clear hreq
              go_wp2_with fail
              go_roundw
              case rel =>
                exact ⟨j + 1, by omega, by go_num, hnext (fun _ => hxy.out), btr' (btr' hbq hBy) hb5⟩
              case measure => simp [intOf]; omega
            | false =>
              go_wp2_with fail
              go_ret
              exact ⟨rfl, btr' (btr' HBq hBy) hb5⟩
        · obtain rfl : j = o.length := by omega
          rw [List.take_length] at hcj
          go_wp2_with fail
          go_roundw
          case rel =>
            refine ⟨k + 1, by omega, by go_num, fun z hz => ?_, btr' (btr' hbr hBx) hbq⟩
            rw [← hts] at hz
            rcases List.mem_append.1 hz with hz | hz
            · exact hcons z hz
            · rw [List.mem_singleton] at hz; subst hz; exact hcj
          case measure => simp [intOf]; omega
    · obtain rfl : k = m.length := by omega
      rw [List.take_length] at hcons
      obtain ⟨ho, fin, k2, f1, f2, f3, f4⟩ := HF.out hcons
      go_wp2_with fail
      have hBl : Below wr.heap.size wr (wr.alloc (.cells #[.slice A1 m.length c1, .slice A2 o.length c2] 22)) := below_alloc (Below.refl _ _) _
      have hbl := blk_new wr (.cells #[.slice A1 m.length c1, .slice A2 o.length c2] 22)
      obtain ⟨g, hg⟩ : ∃ g, wr.heap.size = g := ⟨_, rfl⟩
      obtain ⟨W1, hW1⟩ : ∃ W1, wr.alloc (.cells #[.slice A1 m.length c1, .slice A2 o.length c2] 22) = W1 := ⟨_, rfl⟩
      rw [hW1] at hBl hbl
      have HL := btr' HBr hBl
      have HO4 := btr' hbr hBl
      rw [hg] at hbl
      rw [hW1, hg]
      go_loopw [58] (fun i wr => ∃ j : Nat, j ≤ 2 ∧ i = .int .i64 j ∧ Below W1.heap.size W1 wr) (fun i _ => 2 - (intOf i).toNat)
      case atStart => exact ⟨0, by omega, rfl, Below.refl _ _⟩
      case round =>
        obtain ⟨j, hj, rfl, hbj⟩ := hrel
        have HJ := btr' HL hbj
        by_cases hj2 : j < 2
        · have hblj := blk_below hbl hbj
          have hjd : decide ((j : Int) < 2) = true := decide_eq_true (by omega)
          obtain ⟨A, c, L, hcell, hC, hLc, hLl, hLr⟩ : ∃ A c L, wr.cell? ⟨g, j, none⟩ = some (.slice A L.length c) ∧ kVer.C w A L.length L ∧ L.length ≤ c ∧ L.length < 9223372036854775807 ∧ ∀ x ∈ L, x.f1.length < 9223372036854775807 := by
            have : j = 0 ∨ j = 1 := by omega
            rcases this with rfl | rfl
            · exact ⟨A1, c1, m, blk_cell hblj 0, hr1, hc1, hml, hmr⟩
            · exact ⟨A2, c2, o, blk_cell hblj 1, hr2, hc2, hol, hor⟩
          go_wp2_with fail
          go_loopw [64] (fun i wq => ∃ a : Nat, a ≤ L.length ∧ i = .int .i64 a ∧ Below W1.heap.size W1 wq) (fun i _ => L.length - (intOf i).toNat)
          case atStart => exact ⟨0, Nat.zero_le _, rfl, hbj⟩
          case round =>
            obtain ⟨a, ha, rfl, hba⟩ := hrel
            by_cases hal : a < L.length
            · go_wp2_with fail
              go_loopw [68] (fun i wq => ∃ b : Nat, b ≤ a ∧ i = .int .i64 b ∧ Below W1.heap.size W1 wq) (fun i _ => a - (intOf i).toNat)
              case atStart => exact ⟨0, Nat.zero_le _, rfl, hba⟩
              case round =>
                obtain ⟨b, hb, rfl, hbb⟩ := hrel
                have HJb := btr' HL hbb
                by_cases hblt : b < a
                · obtain ⟨ad, e, q0, q1, Ax, cx, q2, hlx, hCx, q3⟩ := ver_at hC a hal
                  obtain ⟨ad', e', p0, p1, Ay, cy, p2, hly, hCy, p3⟩ := ver_at hC b (by omega)
                  subst e
                  cases e'
                  replace q0 := pw_cell_below HJb q0
                  replace q1 := pw_cell_below HJb q1
                  replace q2 := pw_cell_below HJb q2
                  replace q3 := pw_cell_below HJb q3
                  replace p0 := pw_cell_below HJb p0
                  replace p1 := pw_cell_below HJb p1
                  replace p2 := pw_cell_below HJb p2
                  replace p3 := pw_cell_below HJb p3
                  have hxr := hLr _ (getD_mem z34 hal)
                  generalize L.getD a z34 = x at q0 q1 q2 q3 hlx hCx hxr
                  generalize L.getD b z34 = y at p0 p1 p2 p3 hly hCy
                  cases hne : (x.f0.f0 == y.f0.f0 && (x.f0.f1 == y.f0.f1))
                  · go_wp2_with fail
                    repeat (go_quiet (fail); try go_wp2_with fail)
                    go_roundw
                    case rel => exact ⟨b + 1, by omega, by go_num, by repeat (first | exact hbb | apply pw_below_drewN | apply below_drew)⟩
                    case measure => simp [intOf]; omega
                  · obtain ⟨r, hsame, hreq⟩ := same_any x y hxr
                    have hxy : x.f0 = y.f0 := by rw [nm_eq] at hne; simpa using hne
                    rw [hxy] at q0 q1 hsame
                    clear hne hxy hreq
                    have hbl0 : (0 : Int) ≤ (b : Int) := Int.natCast_nonneg b
                    have hbl1 : (b : Int) < (L.length : Int) := by omega
                    have hbl2 : b < L.length := by omega
                    have Q0 := keep_c8 (below_drew (Below.refl _ wr)) ⟨q0, q1, q2, q3, p0, p1, p2, p3, Below.refl _ wr⟩
                    cases r with
                    | true =>
                      go_wp2_with fail
                      go_region_held3 (fun V => V.cell? (ad.add (a * 4)) = some (.int .u64 y.f0.f0) ∧ V.cell? ⟨(ad.add (a * 4)).block, (ad.add (a * 4)).off + 1, none⟩ = some (.int .u32 y.f0.f1) ∧ V.cell? ⟨(ad.add (a * 4)).block, (ad.add (a * 4)).off + 2, none⟩ = some (.slice Ax x.f1.length cx) ∧ V.cell? ⟨(ad.add (a * 4)).block, (ad.add (a * 4)).off + 3, none⟩ = some (.int .u64 x.f2) ∧ V.cell? (ad.add (b * 4)) = some (.int .u64 y.f0.f0) ∧ V.cell? ⟨(ad.add (b * 4)).block, (ad.add (b * 4)).off + 1, none⟩ = some (.int .u32 y.f0.f1) ∧ V.cell? ⟨(ad.add (b * 4)).block, (ad.add (b * 4)).off + 2, none⟩ = some (.slice Ay y.f1.length cy) ∧ V.cell? ⟨(ad.add (b * 4)).block, (ad.add (b * 4)).off + 3, none⟩ = some (.int .u64 y.f2) ∧ Below wr.heap.size wr V) ((first | assumption | exact Q0 | exact keep_c8 (by assumption) (by assumption)))
                        (first | ((go_at_call 22; refine (hayloftref10_Same.calls (x.f1.length + 2) y.f0.f0 y.f0.f1 Ax cx x.f1 x.f2 y.f0.f0 y.f0.f1 Ay cy y.f1 y.f2 true _ (Kd.C_below hCx (btr' HJb (below_c8 (by assumption)))) hlx (Kd.C_below hCy (btr' HJb (below_c8 (by assumption)))) hly hsame).mono ?_; rintro e w1 ⟨rfl, hb⟩)) | ((fail)))
                      all_goals
                        go_wp2_with fail
                        go_roundw
                        case rel => exact ⟨b + 1, by omega, by go_num, btr' hbb (below_c8 (by assumption))⟩
                        case measure => simp [intOf]; omega
                    | false =>
                      go_wp2_with fail
                      go_region_held3 (fun V => V.cell? (ad.add (a * 4)) = some (.int .u64 y.f0.f0) ∧ V.cell? ⟨(ad.add (a * 4)).block, (ad.add (a * 4)).off + 1, none⟩ = some (.int .u32 y.f0.f1) ∧ V.cell? ⟨(ad.add (a * 4)).block, (ad.add (a * 4)).off + 2, none⟩ = some (.slice Ax x.f1.length cx) ∧ V.cell? ⟨(ad.add (a * 4)).block, (ad.add (a * 4)).off + 3, none⟩ = some (.int .u64 x.f2) ∧ V.cell? (ad.add (b * 4)) = some (.int .u64 y.f0.f0) ∧ V.cell? ⟨(ad.add (b * 4)).block, (ad.add (b * 4)).off + 1, none⟩ = some (.int .u32 y.f0.f1) ∧ V.cell? ⟨(ad.add (b * 4)).block, (ad.add (b * 4)).off + 2, none⟩ = some (.slice Ay y.f1.length cy) ∧ V.cell? ⟨(ad.add (b * 4)).block, (ad.add (b * 4)).off + 3, none⟩ = some (.int .u64 y.f2) ∧ Below wr.heap.size wr V) ((first | assumption | exact Q0 | exact keep_c8 (by assumption) (by assumption)))
                        (first | ((go_at_call 22; refine (hayloftref10_Same.calls (x.f1.length + 2) y.f0.f0 y.f0.f1 Ax cx x.f1 x.f2 y.f0.f0 y.f0.f1 Ay cy y.f1 y.f2 false _ (Kd.C_below hCx (btr' HJb (below_c8 (by assumption)))) hlx (Kd.C_below hCy (btr' HJb (below_c8 (by assumption)))) hly hsame).mono ?_; rintro e w1 ⟨rfl, hb⟩)) | ((fail)))
                      all_goals
                        go_wp2_with fail
                        go_ret
                        exact ⟨rfl, btr' HJb (below_c8 (by assumption))⟩
                · obtain rfl : b = a := by omega
                  go_wp2_with fail
                  go_roundw
                  case rel => exact ⟨b + 1, by omega, by go_num, hbb⟩
                  case measure => simp [intOf]; omega
            · obtain rfl : a = L.length := by omega
              go_wp2_with fail
              go_roundw
              case rel => exact ⟨j + 1, by omega, by go_num, hba⟩
              case measure => simp [intOf]; omega
        · obtain rfl : j = 2 := by omega
          have HO5 := btr' HO4 hbj
          replace hCo := Kd.C_below hCo HO5
          go_wp2_with fail
          refine (recover_Merged.calls Ao co one A2 c2 o fin _ hCo hlo (Kd.C_below hr2 HJ) hc2 f1).mono ?_
          rintro e w6 ⟨v6, rfl, hs6, hb6⟩
          obtain ⟨A6, c6, rfl, hl6, hC6⟩ := Kd.S_reads hs6
          have HB6 := btr' HJ hb6
          go_wp2_with fail
          refine (recover_Merged.calls A0 c0 h A2 c2 o ho _ (Kd.C_below hr0 HB6) hc0 (Kd.C_below hr2 HB6) hc2 f2).mono ?_
          rintro e w7 ⟨v7, rfl, hs7, hb7⟩
          obtain ⟨A7, c7, rfl, hl7, hC7⟩ := Kd.S_reads hs7
          have HB7 := btr' HB6 hb7
          go_wp2_with fail
          refine (recover_Merged.calls A7 c7 ho A1 c1 m fin _ hC7 hl7 (Kd.C_below hr1 HB7) hc1 f3).mono ?_
          rintro e w8 ⟨v8, rfl, hs8, hb8⟩
          obtain ⟨A8, c8, rfl, hl8, hC8⟩ := Kd.S_reads hs8
          have HB8 := btr' HB7 hb8
          go_wp2_with fail
          refine (hayloftref10_SameAll.calls k2 A6 c6 fin A8 c8 fin true w8 (Kd.C_below hC6 (btr' hb7 hb8)) hl6 hC8 hl8 f4).mono ?_
          rintro e w9 ⟨rfl, hb9⟩
          go_wp2_with fail
          go_ret
          exact ⟨rfl, btr' HB8 hb9⟩
theorem okV_mergedL (l m : List Ver) (hl : okV l = true) (hm : okV m = true) (hb : (l.length + m.length) * 48 ≤ 140737488355328) : okV (mergedL l m) = true ∧ (mergedL l m).length ≤ l.length + m.length := by
  obtain ⟨h1, h2, h3⟩ := (okV_iff l).1 hl
  obtain ⟨g1, g2, g3⟩ := (okV_iff m).1 hm
  have hI := mergedL_is l m h1 g1
  have hlen : (mergedL l m).length ≤ l.length + m.length := by
    have := toldL_len (mergedF l m) (l.map (·.f0) ++ m.map (·.f0))
    have h4 := nmsL_len (l.map (·.f0) ++ m.map (·.f0))
    rw [List.length_append, List.length_map, List.length_map] at h4
    exact Nat.le_trans this h4
  refine ⟨(okV_iff _).2 ⟨fun x hx => (hI.2.1 x hx).1, told_row hI fun k x hx => ?_, by omega⟩, hlen⟩
  obtain ⟨y, hy, e⟩ := mergedF_f1 l m k x hx
  rw [e]; exact hy.elim (h2 y) (g2 y)
theorem mergedU_f (l m : List Ver) (hl : okV l = true) (hm : okV m = true) (hb : (l.length + m.length) * 48 ≤ 140737488355328) : recover_Merged.f l m = some (mergedL l m) := by
  have h4 := nmsL_len (l.map (·.f0) ++ m.map (·.f0))
  rw [List.length_append, List.length_map, List.length_map] at h4
  unfold recover_Merged.f
  rw [if_pos ⟨hl, hm, by omega⟩]
theorem again (A0 : Option Addr) (c0 : Nat) (h : List Ver) (A1 : Option Addr) (c1 : Nat) (m : List Ver) (A2 : Option Addr) (c2 : Nat) (o : List Ver) (w : World) (hr0 : kVer.C w A0 h.length h) (hc0 : h.length ≤ c0) (hr1 : kVer.C w A1 m.length m) (hc1 : m.length ≤ c1) (hr2 : kVer.C w A2 o.length o) (hc2 : o.length ≤ c2)
    (kh : okV h = true) (km : okV m = true) (ko : okV o = true) (lh : h.length ≤ 1048576) (lm : m.length ≤ 1048576) (lo : o.length ≤ 1048576) :
    Calls Try.prog 7 #[.slice A0 h.length c0, .slice A1 m.length c1, .slice A2 o.length c2] w fun e w' => e = .returned (.bool true) ∧ Below w.heap.size w w' := by
  have gh := ((okV_iff h).1 kh).1
  have gm := ((okV_iff m).1 km).1
  have go := ((okV_iff o).1 ko).1
  have rm := ((okV_iff m).1 km).2.1
  have ro := ((okV_iff o).1 ko).2.1
  obtain ⟨k1, l1⟩ := okV_mergedL h m kh km (by omega)
  obtain ⟨k2, l2⟩ := okV_mergedL h o kh ko (by omega)
  obtain ⟨k3, l3⟩ := okV_mergedL (mergedL h m) o k1 ko (by omega)
  have sm : ∀ L, okV L = true → L.length ≤ 3145728 → ∃ K, hayloftref10_SameAll.f K L L = some true := fun L kL lL => by
    obtain ⟨K, hK⟩ := sameAll_f L (by omega) (fun x hx => by have := ((okV_iff L).1 kL).2.1 x hx; omega)
    exact ⟨K, hK K (Nat.le_refl _)⟩
  obtain ⟨K1, q1⟩ := sm _ k1 (by omega)
  obtain ⟨K3, q3⟩ := sm _ k3 (by omega)
  refine walkAgain A0 c0 h A1 c1 m A2 c2 o w hr0 hc0 hr1 hc1 hr2 hc2 (by omega) (by omega) (fun x hx => by have := rm x hx; omega) (fun x hx => by have := ro x hx; omega) _ (mergedU_f h m kh km (by omega)) ?_ K1 q1 (fun hcons => ⟨_, _, K3, mergedU_f _ o k1 ko (by omega), mergedU_f h o kh ko (by omega), ?_, q3⟩)
  · rw [mergedU_f _ m k1 km (by omega), again_twice h m gh gm]
  · rw [mergedU_f _ m k2 km (by omega), again_order h m o gh gm go hcons]
end Go.Proofs.Ytfepfpcilmaojaa.QV
