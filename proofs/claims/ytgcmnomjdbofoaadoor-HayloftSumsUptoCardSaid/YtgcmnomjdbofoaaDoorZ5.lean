/- The parts LSums of this proof, one behind the other. -/
import Derived.Test.YtgcmnomjdbofoaaDoorZ4
/- HayloftSums: the walk. -/
namespace Go.Proofs.YtgcmnomjdbofoaaDoor.QV
open Go.RowKit Go.Proofs.YtgcmnomjdbofoaaDoorW.PrintWords Go.Proofs.YtgcmnomjdbofoaaDoor.SeqW Go.Shelf Go.Proofs.YtgcmnomjdbofoaaDoor.Op Go.Proofs.YtgcmnomjdbofoaaDoor.Stab
set_option linter.unusedVariables false
set_option linter.unusedSimpArgs false
set_option maxRecDepth 100000
attribute [local go_sem] Oper.semAt_some
/-- What an answer by groups of few rows is. -/
theorem ans_groups {lo ro : Int} {wh : List Tm} {cols byc : List Int} {aggs : List Ag} {rows R : List Row} {code : Int} (h : Ans ⟨false, lo, ro, wh, cols, true, byc, aggs, [], 0⟩ rows [] R code) (hn : rows.length ≤ 1000) :
    code = 0 ∧ R.Perm (groupL byc aggs (rows.filter (allS wh))) := by
  have h2 : (4096 < (groupL byc aggs (rows.filter (allS wh))).length ∧ R = [] ∧ code = 150) ∨ ((groupL byc aggs (rows.filter (allS wh))).length ≤ 4096 ∧ code = 0 ∧ ∃ R0, Sorts [] (ordS []) (groupL byc aggs (rows.filter (allS wh))) R0 ∧ R = cutQ ⟨false, lo, ro, wh, cols, true, byc, aggs, [], 0⟩ R0) := h
  have hl : (groupL byc aggs (rows.filter (allS wh))).length ≤ 1001 := by
    unfold groupL
    rw [List.length_map]
    have h1 := groupsL_len byc (rows.filter (allS wh))
    have h2 := List.length_filter_le (allS wh) rows
    omega
  rcases h2 with ⟨h2, _⟩ | ⟨_, hc, R0, hs, hR⟩
  · omega
  · refine ⟨hc, ?_⟩
    have : cutQ ⟨false, lo, ro, wh, cols, true, byc, aggs, [], 0⟩ R0 = R0 := by
      unfold cutQ
      rw [if_neg (fun h => by have := h.1; simp at this)]
    rw [hR, this]; exact hs.perm
theorem perm_rows {byc : List Int} {aggs : List Ag} {Z R : List Row} (h : R.Perm (groupL byc aggs Z)) : ∀ r ∈ R, r.length = byc.length + aggs.length := by
  intro r hr
  have := h.mem_iff.1 hr
  unfold groupL at this
  obtain ⟨g, hg, rfl⟩ := List.mem_map.1 this
  rw [List.length_append, List.length_map, groupsL_klen byc Z g hg]
theorem perm_count {byc : List Int} {aggs : List Ag} {Z R : List Row} (h : R.Perm (groupL byc aggs Z)) : R.length ≤ Z.length + 1 := by
  rw [h.length_eq]
  unfold groupL
  rw [List.length_map]
  exact groupsL_len byc Z
set_option maxHeartbeats 16000000 in
theorem walkSums (A0 : Option Addr) (c0 : Nat) (rows : List Row) (cut : Int) (tbl rgt lo ro lim : Int) (jn gp : Bool) (wA : Option Addr) (wn : Nat) (wh : List Tm) (cA : Option Addr) (cn : Nat) (cols : List Int) (bA : Option Addr) (bn : Nat) (byc : List Int) (gA : Option Addr) (gn : Nat) (aggs : List Ag) (oA : Option Addr) (ol on : Nat) (w : World)
    (H0 : kRows.C w A0 rows.length rows) (C0 : rows.length ≤ c0) (hwh : kTm.C w wA wh.length wh ∧ wh.length ≤ wn) (hcols : kI.C w cA cols.length cols ∧ cols.length ≤ cn) (hby : kI.C w bA byc.length byc ∧ byc.length ≤ bn) (hag : kA.C w gA aggs.length aggs ∧ aggs.length ≤ gn)
    (hL : ∀ x ∈ rows, x.length ≤ 1048576) (n0 : rows.length ≤ 1048576) (nw : wh.length ≤ 1048576) (nc : cols.length ≤ 1048576) (nb : byc.length + aggs.length ≤ 1048576) (hT : Tab w) :
    Calls Tryd.prog 3 #[.slice A0 rows.length c0, .int .i64 cut, .agg #[.int .i64 tbl, .bool jn, .int .i64 rgt, .int .i64 lo, .int .i64 ro, .slice wA wh.length wn, .slice cA cols.length cn, .bool gp, .slice bA byc.length bn, .slice gA aggs.length gn, .slice oA ol on, .int .i64 lim]] w fun e w' => e = .returned (.bool true) ∧ Below w.heap.size w w' := by
  go_enter Tryd.func3, Tryd.ntmps3
  go_wp2_with fail
  obtain ⟨w1, hw1⟩ : ∃ w1, w.alloc (.cells #[.int .i64 tbl, .bool false, .int .i64 rgt, .int .i64 lo, .int .i64 ro, .slice wA wh.length wn, .slice cA cols.length cn, .bool true, .slice bA byc.length bn, .slice gA aggs.length gn, .slice none 0 0, .int .i64 0] 28) = w1 := ⟨_, rfl⟩
  rw [hw1]
  have hb1 : Below w.heap.size w w1 := by rw [← hw1]; exact below_alloc (Below.refl _ _) _
  have gq : w1.heap[w.heap.size]? = some (.cells #[.int .i64 tbl, .bool false, .int .i64 rgt, .int .i64 lo, .int .i64 ro, .slice wA wh.length wn, .slice cA cols.length cn, .bool true, .slice bA byc.length bn, .slice gA aggs.length gn, .slice none 0 0, .int .i64 0] 28 (0, 0)) := by rw [← hw1]; exact blk_new _ _
  clear hw1
  have hm0 := H0.2.1
  have hmg := hag.1.2.1
  have hbox : ∀ V, Below w1.heap.size w1 V → (V.cell? ⟨w.heap.size, 0, none⟩ = some (.int .i64 tbl) ∧ V.cell? ⟨w.heap.size, 1, none⟩ = some (.bool false) ∧ V.cell? ⟨w.heap.size, 2, none⟩ = some (.int .i64 rgt) ∧ V.cell? ⟨w.heap.size, 3, none⟩ = some (.int .i64 lo) ∧ V.cell? ⟨w.heap.size, 4, none⟩ = some (.int .i64 ro) ∧ V.cell? ⟨w.heap.size, 5, none⟩ = some (.slice wA wh.length wn)) ∧ (V.cell? ⟨w.heap.size, 6, none⟩ = some (.slice cA cols.length cn) ∧ V.cell? ⟨w.heap.size, 7, none⟩ = some (.bool true) ∧ V.cell? ⟨w.heap.size, 8, none⟩ = some (.slice bA byc.length bn) ∧ V.cell? ⟨w.heap.size, 9, none⟩ = some (.slice gA aggs.length gn) ∧ V.cell? ⟨w.heap.size, 10, none⟩ = some (.slice none 0 0) ∧ V.cell? ⟨w.heap.size, 11, none⟩ = some (.int .i64 0)) := fun V hV => by
    have g := blk_below gq hV
    exact ⟨⟨blk_cell g 0, blk_cell g 1, blk_cell g 2, blk_cell g 3, blk_cell g 4, blk_cell g 5⟩, blk_cell g 6, blk_cell g 7, blk_cell g 8, blk_cell g 9, blk_cell g 10, blk_cell g 11⟩
  have HBOX := Lib.hid hbox
  clear hbox gq
  go_loopw [31] (fun iv wr => ∃ (i : Nat), iv = .int .i64 (i : Int) ∧ i ≤ aggs.length ∧ (∀ a ∈ aggs.take i, 0 ≤ a.f0 ∧ a.f0 ≤ 3) ∧ Below w1.heap.size w1 wr) (fun iv _ => aggs.length - (intOf iv).toNat)
  case atStart => exact ⟨0, rfl, Nat.zero_le _, by simp, Below.refl _ _⟩
  case round =>
    obtain ⟨i, rfl, hi, hops, hB0⟩ := hrel
    obtain ⟨WR0, rfl⟩ : ∃ WR0, WR0 = wr := ⟨_, rfl⟩
    have hb0 : Below w.heap.size w WR0 := btrA hb1 hB0
    have c9 := (HBOX.out WR0 hB0).2.2.2.2.1
    by_cases hlt : i < aggs.length
    · have hltz : (i : Int) < (aggs.length : Int) := by omega
      obtain ⟨gd, cs, hgd, _, hKa, hcs⟩ := Kd.C_get (Kd.C_below hag.1 hb0) z30 i (by omega) (by omega)
      have hop := k30_open hKa
      have hsz : kA.sz = 2 := rfl
      have hts := take_snoc' z30 aggs i hlt
      rw [Int.toNat_natCast] at hop
      generalize aggs.getD i z30 = ag at *
      have a0 := hcs 0 (.int .i64 ag.f0) (by rw [hop]; rfl)
      rw [hsz, Int.toNat_natCast, Nat.add_zero] at a0
      clear hcs hop hKa
      subst hgd
      obtain ⟨op, col⟩ := ag
      simp only at a0
      have HOPS := Lib.hid (And.intro hops hts)
      clear hops hts
      by_cases h1 : op < 0
      · go_wp2_with fail
        go_ret
        exact ⟨rfl, hb0⟩
      · by_cases h2 : 3 < op
        · go_wp2_with fail
          go_ret
          exact ⟨rfl, hb0⟩
        · go_wp2_with fail
          go_roundw
          case rel =>
            refine ⟨i + 1, by go_num, by omega, fun a ha => ?_, hB0⟩
            rw [← HOPS.out.2] at ha
            rcases List.mem_append.1 ha with h | h
            · exact HOPS.out.1 a h
            · rw [List.mem_singleton.1 h]
              exact ⟨by simp only; omega, by simp only; omega⟩
          case measure => simp [intOf]; omega
    · obtain rfl : i = aggs.length := by omega
      rw [List.take_length] at hops
      have HOPS := Lib.hid hops
      clear hops
      go_wp2_with fail
      go_loopw [53] (fun iv wr => ∃ (i : Nat), iv = .int .i64 (i : Int) ∧ i ≤ rows.length ∧ (∀ x ∈ rows.take i, okRow x = true) ∧ Below w1.heap.size w1 wr) (fun iv _ => rows.length - (intOf iv).toNat)
      case atStart => exact ⟨0, rfl, Nat.zero_le _, by simp, hB0⟩
      case round =>
        obtain ⟨i, rfl, hi, hok, hB⟩ := hrel
        obtain ⟨WR, rfl⟩ : ∃ WR, WR = wr := ⟨_, rfl⟩
        have hbw : Below w.heap.size w WR := btrA hb1 hB
        by_cases hlt : i < rows.length
        · have hltz : (i : Int) < (rows.length : Int) := by omega
          obtain ⟨rd, Ax, cx, hrd, hxc0, hxle, hxC0⟩ := kRows_atS H0 i hlt
          have hxc := pw_cell_below hbw hxc0
          have hts := take_snoc' ([] : Row) rows i hlt
          generalize rows.getD i [] = x at *
          have HOK := Lib.hid (And.intro hok hts)
          have hmx := hxC0.2.1
          clear hok hts hxc0
          subst hrd
          go_wp2_with fail
          go_loopw [59] (fun jv V => ∃ (j : Nat), jv = .int .i64 (j : Int) ∧ j ≤ x.length ∧ okRow (x.take j) = true ∧ Below WR.heap.size WR V) (fun jv _ => x.length - (intOf jv).toNat)
          case atStart => exact ⟨0, rfl, Nat.zero_le _, rfl, Below.refl _ _⟩
          case round =>
            obtain ⟨j, rfl, hj, hokj, hBj⟩ := hrel
            have hbwj : Below w.heap.size w wr := btrA hbw hBj
            by_cases hjl : j < x.length
            · have hjz : (j : Int) < (x.length : Int) := by omega
              obtain ⟨xd, hxd, q0, q1, q2, q3⟩ := kS_atV (Kd.C_below hxC0 hbwj) j hjl
              have htj := take_snoc' zV x j hjl
              generalize x.getD j zV = v at *
              obtain ⟨v0, v1, v2, v3⟩ := v
              simp only at q0 q1 q2 q3
              subst hxd
              obtain ⟨b, hb⟩ : ∃ b, rightV ⟨v0, v1, v2, v3⟩ = b := ⟨_, rfl⟩
              have HB := Lib.hid (And.intro hb (And.intro htj hokj))
              clear hb htj hokj
              go_wp2_with fail
              refine (hayloftref02_Right.calls v0 v1 v2 v3 b _ (by rw [← HB.out.1]; rfl)).mono ?_
              rintro e w5 ⟨rfl, hb5⟩
              have hb5' : Below wr.heap.size wr w5 := (below_alloc (Below.refl _ wr) _).trans (hb5.mono (by simp))
              cases b with
              | false =>
                go_wp2_with fail
                go_ret
                exact ⟨rfl, btrA hbwj hb5'⟩
              | true =>
                go_wp2_with fail
                go_roundw
                case rel =>
                  refine ⟨j + 1, by go_num, by omega, ?_, hBj.trans (hb5'.mono hBj.size)⟩
                  rw [← HB.out.2.1]
                  unfold okRow
                  rw [List.all_append]
                  have h1 := HB.out.2.2
                  unfold okRow at h1
                  rw [h1]
                  simp only [List.all_cons, List.all_nil, Bool.and_true, Bool.true_and]
                  exact HB.out.1
                case measure => simp [intOf]; omega
            · obtain rfl : j = x.length := by omega
              rw [List.take_length] at hokj
              have HJ := Lib.hid hokj
              clear hokj
              go_wp2_with fail
              go_roundw
              case rel =>
                refine ⟨i + 1, by go_num, by omega, fun y hy => ?_, btrA hB hBj⟩
                rw [← HOK.out.2] at hy
                rcases List.mem_append.1 hy with h | h
                · exact HOK.out.1 y h
                · rw [List.mem_singleton.1 h]; exact HJ.out
              case measure => simp [intOf]; omega
        · obtain rfl : i = rows.length := by omega
          rw [List.take_length] at hok
          have HOK := Lib.hid hok
          clear hok
          by_cases h1 : cut < 0
          · go_wp2_with fail
            go_ret
            exact ⟨rfl, hbw⟩
          by_cases h2 : (rows.length : Int) < cut
          · go_wp2_with fail
            go_ret
            exact ⟨rfl, hbw⟩
          by_cases h3 : (1000 : Int) < (rows.length : Int)
          · go_wp2_with fail
            go_ret
            exact ⟨rfl, hbw⟩
          have hm1000 : rows.length ≤ 1000 := by omega
          obtain ⟨m, rfl⟩ : ∃ m : Nat, cut = (m : Int) := ⟨cut.toNat, by omega⟩
          have hml : m ≤ rows.length := by omega
          obtain ⟨⟨x0, x1, x2, x3, x4, x5⟩, x6, x7, x8, x9, x10, x11⟩ := HBOX.out WR hB
          obtain ⟨Q, hQ⟩ : ∃ Q : Qy, (⟨false, lo, ro, wh, cols, true, byc, aggs, [], 0⟩ : Qy) = Q := ⟨_, rfl⟩
          have hqa : ∀ V, Below w.heap.size w V → QAt V Q #[.int .i64 tbl, .bool false, .int .i64 rgt, .int .i64 lo, .int .i64 ro, .slice wA wh.length wn, .slice cA cols.length cn, .bool true, .slice bA byc.length bn, .slice gA aggs.length gn, .slice none 0 0, .int .i64 0] := fun V hV => by
            rw [← hQ]
            exact ⟨tbl, rgt, wA, wn, cA, cn, bA, bn, gA, gn, none, 0, rfl, ⟨Kd.C_below hwh.1 hV, hwh.2⟩, ⟨Kd.C_below hcols.1 hV, hcols.2⟩, ⟨Kd.C_below hby.1 hV, hby.2⟩, ⟨Kd.C_below hag.1 hV, hag.2⟩, ⟨Kd.C_nil _ _, Nat.le_refl _⟩⟩
          have hqs : QSmall Q := by rw [← hQ]; exact ⟨nw, nc, nb, by simp⟩
          have hans : ∀ (Z R : List Row) (code : Int), Z.length ≤ 1000 → Ans Q Z [] R code → code = 0 ∧ R.Perm (groupL byc aggs (Z.filter (allS wh))) := fun Z R code hz h => by
            rw [← hQ] at h; exact ans_groups h hz
          have HANS := Lib.hid hans
          clear hans hQ
          have hlT : ∀ x ∈ rows.take m, x.length ≤ 1048576 := fun x hx => hL x (List.mem_of_mem_take hx)
          have hlD : ∀ x ∈ rows.drop m, x.length ≤ 1048576 := fun x hx => hL x (List.mem_of_mem_drop hx)
          go_wp2_with fail
          refine (answer_any Q _ A0 c0 rows none 0 [] WR (hqa WR hbw) hqs (Kd.C_below H0 hbw) C0 (Kd.C_nil _ _) (Nat.le_refl _) (hT.below hbw) hL (by simp) (by simp) n0 (by simp)).mono ?_
          rintro e w2 ⟨A2, c2, R2, code2, rfl, hle2, hC2, ha2, hb2⟩
          obtain ⟨rfl, hp2⟩ := HANS.out rows R2 code2 hm1000 ha2
          clear ha2
          have hB2 := btrA hbw hb2
          have hB12 := btrA hB hb2
          have hmc : m ≤ c0 := by omega
          have S2 : ∀ V, Below w2.heap.size w2 V → (fun V => (V.cell? ⟨w.heap.size, 0, none⟩ = some (.int .i64 tbl) ∧ V.cell? ⟨w.heap.size, 1, none⟩ = some (.bool false) ∧ V.cell? ⟨w.heap.size, 2, none⟩ = some (.int .i64 rgt) ∧ V.cell? ⟨w.heap.size, 3, none⟩ = some (.int .i64 lo) ∧ V.cell? ⟨w.heap.size, 4, none⟩ = some (.int .i64 ro) ∧ V.cell? ⟨w.heap.size, 5, none⟩ = some (.slice wA wh.length wn)) ∧ (V.cell? ⟨w.heap.size, 6, none⟩ = some (.slice cA cols.length cn) ∧ V.cell? ⟨w.heap.size, 7, none⟩ = some (.bool true) ∧ V.cell? ⟨w.heap.size, 8, none⟩ = some (.slice bA byc.length bn) ∧ V.cell? ⟨w.heap.size, 9, none⟩ = some (.slice gA aggs.length gn) ∧ V.cell? ⟨w.heap.size, 10, none⟩ = some (.slice none 0 0) ∧ V.cell? ⟨w.heap.size, 11, none⟩ = some (.int .i64 0))) V := fun V hV => HBOX.out V (btrA hB12 hV)
          go_wp2_with fail
          refine (wpIn_wide (n := 0)).1 ?_
          refine wpIn_region_R (l := 0) 99 (S := fun V => (V.cell? ⟨w.heap.size, 0, none⟩ = some (.int .i64 tbl) ∧ V.cell? ⟨w.heap.size, 1, none⟩ = some (.bool false) ∧ V.cell? ⟨w.heap.size, 2, none⟩ = some (.int .i64 rgt) ∧ V.cell? ⟨w.heap.size, 3, none⟩ = some (.int .i64 lo) ∧ V.cell? ⟨w.heap.size, 4, none⟩ = some (.int .i64 ro) ∧ V.cell? ⟨w.heap.size, 5, none⟩ = some (.slice wA wh.length wn)) ∧ (V.cell? ⟨w.heap.size, 6, none⟩ = some (.slice cA cols.length cn) ∧ V.cell? ⟨w.heap.size, 7, none⟩ = some (.bool true) ∧ V.cell? ⟨w.heap.size, 8, none⟩ = some (.slice bA byc.length bn) ∧ V.cell? ⟨w.heap.size, 9, none⟩ = some (.slice gA aggs.length gn) ∧ V.cell? ⟨w.heap.size, 10, none⟩ = some (.slice none 0 0) ∧ V.cell? ⟨w.heap.size, 11, none⟩ = some (.int .i64 0))) (by kernel_rfl) (S2 _ (below_drew (Below.refl _ _))) (fun hS0 => ?_)
          refine wpAnyR_take (i := 0) (oi := ⟨some 88, _, _, _, _, _⟩) (v := ?_) (by kernel_rfl) (by kernel_rfl) rfl (by kernel_rfl) (by kernel_rfl) (by kernel_rfl) (fun _ _ _ h => h) (Or.inl ⟨by rfl, ?_⟩) (by assumption) ?_
          rotate_left
          · intro w hSw; (try dsimp only at hSw); (try go_split_ands); go_simp; (try (with_reducible rfl))
          (try simp only [Act.put, List.setIfInBounds_toArray, List.set_cons_zero, List.set_cons_succ])
          refine wpAnyR_take (i := 1) (oi := ⟨some 89, _, _, _, _, _⟩) (v := ?_) (by kernel_rfl) (by kernel_rfl) rfl (by kernel_rfl) (by kernel_rfl) (by kernel_rfl) (fun _ _ _ h => h) (Or.inl ⟨by rfl, ?_⟩) (by assumption) ?_
          rotate_left
          · intro w hSw; (try dsimp only at hSw); (try go_split_ands); go_simp; (try (with_reducible rfl))
          (try simp only [Act.put, List.setIfInBounds_toArray, List.set_cons_zero, List.set_cons_succ])
          refine wpAnyR_take (i := 2) (oi := ⟨some 90, _, _, _, _, _⟩) (v := ?_) (by kernel_rfl) (by kernel_rfl) rfl (by kernel_rfl) (by kernel_rfl) (by kernel_rfl) (fun _ _ _ h => h) (Or.inl ⟨by rfl, ?_⟩) (by assumption) ?_
          rotate_left
          · intro w hSw; (try dsimp only at hSw); (try go_split_ands); go_simp; (try (with_reducible rfl))
          (try simp only [Act.put, List.setIfInBounds_toArray, List.set_cons_zero, List.set_cons_succ])
          refine wpAnyR_take (i := 3) (oi := ⟨some 91, _, _, _, _, _⟩) (v := ?_) (by kernel_rfl) (by kernel_rfl) rfl (by kernel_rfl) (by kernel_rfl) (by kernel_rfl) (fun _ _ _ h => h) (Or.inl ⟨by rfl, ?_⟩) (by assumption) ?_
          rotate_left
          · intro w hSw; (try dsimp only at hSw); (try go_split_ands); go_simp; (try (with_reducible rfl))
          (try simp only [Act.put, List.setIfInBounds_toArray, List.set_cons_zero, List.set_cons_succ])
          refine wpAnyR_one (i := 4) (o := ⟨some 92, _, _, _, _, _⟩) (by kernel_rfl) (by kernel_rfl) rfl (fun K hK => ?_)
          go_simp
          have hBd2 : Below w.heap.size w w2.drew := below_drew hB2
          have hH3 := Kd.C_take (m := m) (Kd.C_below H0 hBd2) (by omega)
          have hl3 : (rows.take m).length = m := by rw [List.length_take]; omega
          have hA3 := answer_any Q _ A0 c0 (rows.take m) none 0 [] w2.drew (hqa _ hBd2) hqs hH3 (by rw [hl3]; exact hmc) (Kd.C_nil _ _) (Nat.le_refl _) (hT.below hBd2) hlT (by simp) (by simp) (by omega) (by simp)
          rw [hl3] at hA3
          refine hA3.mono ?_
          clear hA3 hl3 hH3
          rintro e w3 ⟨A3, c3, R3, code3, rfl, hle3, hC3, ha3, hb3⟩
          obtain ⟨rfl, hp3⟩ := HANS.out (rows.take m) R3 code3 (by rw [List.length_take]; omega) ha3
          clear ha3
          have hb3' : Below w2.heap.size w2 w3 := (below_drew (Below.refl _ w2)).trans hb3
          (try dsimp only)
          refine hK.out _ _ (.inr (S2 _ hb3')) ?_
          clear hK K
          (try simp only [Act.put, List.setIfInBounds_toArray, List.set_cons_zero, List.set_cons_succ])
          have hS3w := S2 _ hb3'
          refine wpAnyR_take (i := 5) (oi := ⟨some 87, _, _, _, _, _⟩) (v := ?_) (by kernel_rfl) (by kernel_rfl) rfl (by kernel_rfl) (by kernel_rfl) (by kernel_rfl) (fun _ _ _ h => h) (Or.inl ⟨by rfl, ?_⟩) (by assumption) ?_
          rotate_left
          · intro w hSw; (try dsimp only at hSw); (try go_split_ands); go_simp; (try (with_reducible rfl))
          (try simp only [Act.put, List.setIfInBounds_toArray, List.set_cons_zero, List.set_cons_succ])
          refine wpAnyR_take (i := 6) (oi := ⟨some 93, _, _, _, _, _⟩) (v := ?_) (by kernel_rfl) (by kernel_rfl) rfl (by kernel_rfl) (by kernel_rfl) (by kernel_rfl) (fun _ _ _ h => h) (Or.inl ⟨by rfl, ?_⟩) (by assumption) ?_
          rotate_left
          · intro w hSw; (try dsimp only at hSw); (try go_split_ands); go_simp; (try (with_reducible rfl))
          (try simp only [Act.put, List.setIfInBounds_toArray, List.set_cons_zero, List.set_cons_succ])
          refine wpAnyR_take (i := 7) (oi := ⟨some 94, _, _, _, _, _⟩) (v := ?_) (by kernel_rfl) (by kernel_rfl) rfl (by kernel_rfl) (by kernel_rfl) (by kernel_rfl) (fun _ _ _ h => h) (Or.inl ⟨by rfl, ?_⟩) (by assumption) ?_
          rotate_left
          · intro w hSw; (try dsimp only at hSw); (try go_split_ands); go_simp; (try (with_reducible rfl))
          (try simp only [Act.put, List.setIfInBounds_toArray, List.set_cons_zero, List.set_cons_succ])
          refine wpAnyR_take (i := 8) (oi := ⟨some 14, _, _, _, _, _⟩) (v := ?_) (by kernel_rfl) (by kernel_rfl) rfl (by kernel_rfl) (by kernel_rfl) (by kernel_rfl) (fun _ _ _ h => h) (Or.inl ⟨by rfl, ?_⟩) (by assumption) ?_
          rotate_left
          · intro w hSw; (try dsimp only at hSw); (try go_split_ands); go_simp; (try (with_reducible rfl))
          (try simp only [Act.put, List.setIfInBounds_toArray, List.set_cons_zero, List.set_cons_succ])
          refine wpAnyR_take (i := 9) (oi := ⟨some 15, _, _, _, _, _⟩) (v := ?_) (by kernel_rfl) (by kernel_rfl) rfl (by kernel_rfl) (by kernel_rfl) (by kernel_rfl) (fun _ _ _ h => h) (Or.inl ⟨by rfl, ?_⟩) (by assumption) ?_
          rotate_left
          · intro w hSw; (try dsimp only at hSw); (try go_split_ands); go_simp; (try (with_reducible rfl))
          (try simp only [Act.put, List.setIfInBounds_toArray, List.set_cons_zero, List.set_cons_succ])
          refine wpAnyR_done (by kernel_rfl) ?_ _
          have hB3 := btrA hB2 hb3'
          have hB13 := btrA hB12 hb3'
          have hmn : (m : Int) ≤ (rows.length : Int) := by omega
          have S3 : ∀ V, Below w3.heap.size w3 V → (fun V => (V.cell? ⟨w.heap.size, 0, none⟩ = some (.int .i64 tbl) ∧ V.cell? ⟨w.heap.size, 1, none⟩ = some (.bool false) ∧ V.cell? ⟨w.heap.size, 2, none⟩ = some (.int .i64 rgt) ∧ V.cell? ⟨w.heap.size, 3, none⟩ = some (.int .i64 lo) ∧ V.cell? ⟨w.heap.size, 4, none⟩ = some (.int .i64 ro) ∧ V.cell? ⟨w.heap.size, 5, none⟩ = some (.slice wA wh.length wn)) ∧ (V.cell? ⟨w.heap.size, 6, none⟩ = some (.slice cA cols.length cn) ∧ V.cell? ⟨w.heap.size, 7, none⟩ = some (.bool true) ∧ V.cell? ⟨w.heap.size, 8, none⟩ = some (.slice bA byc.length bn) ∧ V.cell? ⟨w.heap.size, 9, none⟩ = some (.slice gA aggs.length gn) ∧ V.cell? ⟨w.heap.size, 10, none⟩ = some (.slice none 0 0) ∧ V.cell? ⟨w.heap.size, 11, none⟩ = some (.int .i64 0))) V := fun V hV => HBOX.out V (btrA hB13 hV)
          go_wp2_with fail
          refine (wpIn_wide (n := 0)).1 ?_
          refine wpIn_region_R (l := 0) 99 (S := fun V => (V.cell? ⟨w.heap.size, 0, none⟩ = some (.int .i64 tbl) ∧ V.cell? ⟨w.heap.size, 1, none⟩ = some (.bool false) ∧ V.cell? ⟨w.heap.size, 2, none⟩ = some (.int .i64 rgt) ∧ V.cell? ⟨w.heap.size, 3, none⟩ = some (.int .i64 lo) ∧ V.cell? ⟨w.heap.size, 4, none⟩ = some (.int .i64 ro) ∧ V.cell? ⟨w.heap.size, 5, none⟩ = some (.slice wA wh.length wn)) ∧ (V.cell? ⟨w.heap.size, 6, none⟩ = some (.slice cA cols.length cn) ∧ V.cell? ⟨w.heap.size, 7, none⟩ = some (.bool true) ∧ V.cell? ⟨w.heap.size, 8, none⟩ = some (.slice bA byc.length bn) ∧ V.cell? ⟨w.heap.size, 9, none⟩ = some (.slice gA aggs.length gn) ∧ V.cell? ⟨w.heap.size, 10, none⟩ = some (.slice none 0 0) ∧ V.cell? ⟨w.heap.size, 11, none⟩ = some (.int .i64 0))) (by kernel_rfl) (S3 _ (below_drew (Below.refl _ _))) (fun hS0 => ?_)
          refine wpAnyR_take (i := 0) (oi := ⟨some 96, _, _, _, _, _⟩) (v := ?_) (by kernel_rfl) (by kernel_rfl) rfl (by kernel_rfl) (by kernel_rfl) (by kernel_rfl) (fun _ _ _ h => h) (Or.inl ⟨by rfl, ?_⟩) (by assumption) ?_
          rotate_left
          · intro w hSw; (try dsimp only at hSw); (try go_split_ands); go_simp; (try (with_reducible rfl))
          (try simp only [Act.put, List.setIfInBounds_toArray, List.set_cons_zero, List.set_cons_succ])
          refine wpAnyR_take (i := 1) (oi := ⟨some 97, _, _, _, _, _⟩) (v := ?_) (by kernel_rfl) (by kernel_rfl) rfl (by kernel_rfl) (by kernel_rfl) (by kernel_rfl) (fun _ _ _ h => h) (Or.inl ⟨by rfl, ?_⟩) (by assumption) ?_
          rotate_left
          · intro w hSw; (try dsimp only at hSw); (try go_split_ands); go_simp; (try (with_reducible rfl))
          (try simp only [Act.put, List.setIfInBounds_toArray, List.set_cons_zero, List.set_cons_succ])
          refine wpAnyR_take (i := 2) (oi := ⟨some 98, _, _, _, _, _⟩) (v := ?_) (by kernel_rfl) (by kernel_rfl) rfl (by kernel_rfl) (by kernel_rfl) (by kernel_rfl) (fun _ _ _ h => h) (Or.inl ⟨by rfl, ?_⟩) (by assumption) ?_
          rotate_left
          · intro w hSw; (try dsimp only at hSw); (try go_split_ands); go_simp; (try (with_reducible rfl))
          (try simp only [Act.put, List.setIfInBounds_toArray, List.set_cons_zero, List.set_cons_succ])
          refine wpAnyR_take (i := 3) (oi := ⟨some 99, _, _, _, _, _⟩) (v := ?_) (by kernel_rfl) (by kernel_rfl) rfl (by kernel_rfl) (by kernel_rfl) (by kernel_rfl) (fun _ _ _ h => h) (Or.inl ⟨by rfl, ?_⟩) (by assumption) ?_
          rotate_left
          · intro w hSw; (try dsimp only at hSw); (try go_split_ands); go_simp; (try (with_reducible rfl))
          (try simp only [Act.put, List.setIfInBounds_toArray, List.set_cons_zero, List.set_cons_succ])
          refine wpAnyR_one (i := 4) (o := ⟨some 100, _, _, _, _, _⟩) (by kernel_rfl) (by kernel_rfl) rfl (fun K hK => ?_)
          go_simp
          have hBd3 : Below w.heap.size w w3.drew := below_drew hB3
          have hH4 : kRows.C w3.drew (if c0 = m then A0 else Option.map (fun x => x.add m) A0) (rows.drop m).length (rows.drop m) := by
            have h := Kd.C_drop (Kd.C_below H0 hBd3) hml C0
            have hsz : kRows.sz = 1 := rfl
            rw [hsz, Nat.mul_one] at h
            exact h
          generalize (if c0 = m then A0 else Option.map (fun x => x.add m) A0) = AD at hH4 ⊢
          have hl4 : (rows.drop m).length = rows.length - m := List.length_drop ..
          have hA4 := answer_any Q _ AD (c0 - m) (rows.drop m) none 0 [] w3.drew (hqa _ hBd3) hqs hH4 (by rw [hl4]; omega) (Kd.C_nil _ _) (Nat.le_refl _) (hT.below hBd3) hlD (by simp) (by simp) (by omega) (by simp)
          rw [hl4] at hA4
          refine hA4.mono ?_
          clear hA4 hl4 hH4
          rintro e w4 ⟨A4, c4, R4, code4, rfl, hle4, hC4, ha4, hb4⟩
          obtain ⟨rfl, hp4⟩ := HANS.out (rows.drop m) R4 code4 (by rw [List.length_drop]; omega) ha4
          clear ha4
          have hb4' : Below w3.heap.size w3 w4 := (below_drew (Below.refl _ w3)).trans hb4
          (try dsimp only)
          refine hK.out _ _ (.inr (S3 _ hb4')) ?_
          clear hK K
          (try simp only [Act.put, List.setIfInBounds_toArray, List.set_cons_zero, List.set_cons_succ])
          have hS4w := S3 _ hb4'
          refine wpAnyR_take (i := 5) (oi := ⟨some 95, _, _, _, _, _⟩) (v := ?_) (by kernel_rfl) (by kernel_rfl) rfl (by kernel_rfl) (by kernel_rfl) (by kernel_rfl) (fun _ _ _ h => h) (Or.inl ⟨by rfl, ?_⟩) (by assumption) ?_
          rotate_left
          · intro w hSw; (try dsimp only at hSw); (try go_split_ands); go_simp; (try (with_reducible rfl))
          (try simp only [Act.put, List.setIfInBounds_toArray, List.set_cons_zero, List.set_cons_succ])
          refine wpAnyR_take (i := 6) (oi := ⟨some 101, _, _, _, _, _⟩) (v := ?_) (by kernel_rfl) (by kernel_rfl) rfl (by kernel_rfl) (by kernel_rfl) (by kernel_rfl) (fun _ _ _ h => h) (Or.inl ⟨by rfl, ?_⟩) (by assumption) ?_
          rotate_left
          · intro w hSw; (try dsimp only at hSw); (try go_split_ands); go_simp; (try (with_reducible rfl))
          (try simp only [Act.put, List.setIfInBounds_toArray, List.set_cons_zero, List.set_cons_succ])
          refine wpAnyR_take (i := 7) (oi := ⟨some 102, _, _, _, _, _⟩) (v := ?_) (by kernel_rfl) (by kernel_rfl) rfl (by kernel_rfl) (by kernel_rfl) (by kernel_rfl) (fun _ _ _ h => h) (Or.inl ⟨by rfl, ?_⟩) (by assumption) ?_
          rotate_left
          · intro w hSw; (try dsimp only at hSw); (try go_split_ands); go_simp; (try (with_reducible rfl))
          (try simp only [Act.put, List.setIfInBounds_toArray, List.set_cons_zero, List.set_cons_succ])
          refine wpAnyR_take (i := 8) (oi := ⟨some 16, _, _, _, _, _⟩) (v := ?_) (by kernel_rfl) (by kernel_rfl) rfl (by kernel_rfl) (by kernel_rfl) (by kernel_rfl) (fun _ _ _ h => h) (Or.inl ⟨by rfl, ?_⟩) (by assumption) ?_
          rotate_left
          · intro w hSw; (try dsimp only at hSw); (try go_split_ands); go_simp; (try (with_reducible rfl))
          (try simp only [Act.put, List.setIfInBounds_toArray, List.set_cons_zero, List.set_cons_succ])
          refine wpAnyR_take (i := 9) (oi := ⟨some 17, _, _, _, _, _⟩) (v := ?_) (by kernel_rfl) (by kernel_rfl) rfl (by kernel_rfl) (by kernel_rfl) (by kernel_rfl) (fun _ _ _ h => h) (Or.inl ⟨by rfl, ?_⟩) (by assumption) ?_
          rotate_left
          · intro w hSw; (try dsimp only at hSw); (try go_split_ands); go_simp; (try (with_reducible rfl))
          (try simp only [Act.put, List.setIfInBounds_toArray, List.set_cons_zero, List.set_cons_succ])
          refine wpAnyR_done (by kernel_rfl) ?_ _
          have hB4 := btrA hB3 hb4'
          have hB14 := btrA hB13 hb4'
          clear S2 S3 hS3w hS4w hmn hBd2 hBd3 hqa hqs hlT hlD
          have hnC := perm_count hp2
          have hf2 := List.length_filter_le (allS wh) rows
          have hr3 := perm_rows hp3
          have hr4 := perm_rows hp4
          have hn3 := perm_count hp3
          have hn4 := perm_count hp4
          have hf3 := List.length_filter_le (allS wh) (rows.take m)
          have hf4 := List.length_filter_le (allS wh) (rows.drop m)
          rw [List.length_take] at hf3
          rw [List.length_drop] at hf4
          have hR3 : R3.length ≤ 1048576 := by omega
          have hR4 : R4.length ≤ 1048576 := by omega
          have hlaw := tog_law (by' := byc) (aggs := aggs) (X := (rows.take m).filter (allS wh)) (Y := (rows.drop m).filter (allS wh)) (A := R3) (B := R4) (C := R2) (fun x hx => HOK.out x (List.mem_of_mem_take (List.mem_filter.1 hx).1)) (fun x hx => HOK.out x (List.mem_of_mem_drop (List.mem_filter.1 hx).1)) HOPS.out (by omega) hp3 hp4 (by rw [← List.filter_append, List.take_append_drop]; exact hp2)
          have hnil : byc = [] → R2.length = 1 := fun hb => by
            rw [hb] at hp2; exact nil_len hp2
          have HNIL := Lib.hid hnil
          have hC3' := Kd.C_below hC3 hb4'
          have hb24 : Below w2.heap.size w2 w4 := btrA hb3' hb4'
          have hC2' := Kd.C_below hC2 hb24
          have hR2 : R2.length ≤ 1048576 := by omega
          have hrl2 := perm_rows hp2
          clear hnil hp2 hp3 hp4 hn3 hn4 hf3 hf4 hC2 hC3 hb3 hb4 hb2 hnC hf2
          obtain ⟨⟨x0, x1, x2, x3, x4, x5⟩, x6, x7, x8, x9, x10, x11⟩ := HBOX.out w4 hB14
          go_wp2_with fail
          refine (together_any A3 c3 R3 A4 c4 R4 byc.length gA gn aggs w4 hC3' hle3 hC4 hle4 (Kd.C_below hag.1 hB4) hag.2 hr3 hr4 nb hR3 hR4).mono ?_
          obtain ⟨BL, hBL⟩ : ∃ BL, togL byc.length aggs R3 R4 = BL := ⟨_, rfl⟩
          rw [hBL] at hlaw ⊢
          obtain ⟨hlen, hmemB⟩ := hlaw
          rintro e w5 ⟨A5, c5, rfl, hle5, hC5, hb5⟩
          have hB5 := btrA hB4 hb5
          have hB15 := btrA hB14 hb5
          have hC2' := Kd.C_below hC2' hb5
          clear hBL hr3 hr4 hC3' hC4
          have HLEN := Lib.hid hlen
          have hlz : ((BL.length : Int) == (R2.length : Int)) = true := by rw [hlen]; simp
          have hlz2 : decide ((BL.length : Int) = (R2.length : Int)) = true := by rw [hlen]; simp
          clear hlen
          clear x0 x1 x2 x3 x4 x5 x6 x7 x8 x9 x10 x11
          go_wp2_with fail
          obtain ⟨W5, rfl⟩ : ∃ W5, W5 = w5 := ⟨_, rfl⟩
          have hbn : ((BL.length : Int) != (R2.length : Int)) = false := by rw [HLEN.out]; simp
          rw [hbn]
          clear hlz hlz2 hbn
          have hmR := hC2'.2.1
          have hmB := hC5.2.1
          go_loopw [128] (fun iv wr => ∃ (i : Nat), iv = .int .i64 (i : Int) ∧ i ≤ R2.length ∧ Below W5.heap.size W5 wr) (fun iv _ => R2.length - (intOf iv).toNat)
          case atStart => exact ⟨0, rfl, Nat.zero_le _, Below.refl _ _⟩
          case round =>
            obtain ⟨i, rfl, hi, hB6⟩ := hrel
            obtain ⟨W6, rfl⟩ : ∃ W6, W6 = wr := ⟨_, rfl⟩
            have hbw6 : Below w.heap.size w W6 := btrA hB5 hB6
            by_cases hlt : i < R2.length
            · have hltz : (i : Int) < (R2.length : Int) := by omega
              obtain ⟨rd, Ax, cx, hrd, hxc0, hxle, hxC0⟩ := kRows_atS hC2' i hlt
              have hxc := pw_cell_below hB6 hxc0
              have hxC := Kd.C_below hxC0 hB6
              have hmem := hmemB _ (getD_mem [] hlt)
              generalize R2.getD i [] = x at *
              have hmx := hxC0.2.1
              have HMEM := Lib.hid hmem
              clear hxc0 hmem
              subst hrd
              go_wp2_with fail
              go_loopw [21, 134] (fun fv jv V => ∃ (j : Nat) (fb : Bool), jv = .int .i64 (j : Int) ∧ j ≤ BL.length ∧ fv = .bool fb ∧ fb = (BL.take j).any (fun o => eqRow x o) ∧ Below W6.heap.size W6 V) (fun _ jv _ => BL.length - (intOf jv).toNat)
              case atStart => exact ⟨0, false, rfl, Nat.zero_le _, rfl, by simp, Below.refl _ _⟩
              case round =>
                obtain ⟨j, fb, rfl, hj, rfl, hfb, hBj⟩ := hrel
                have hbwj : Below W5.heap.size W5 wr := btrA hB6 hBj
                by_cases hjl : j < BL.length
                · have hjz : (j : Int) < (BL.length : Int) := by omega
                  obtain ⟨bd, Ay, cy, hbd, hyc0, hyle, hyC0⟩ := kRows_atS hC5 j hjl
                  have hyc := pw_cell_below hbwj hyc0
                  have hyC := Kd.C_below hyC0 hbwj
                  have htj := take_snoc' ([] : Row) BL j hjl
                  generalize BL.getD j [] = o at *
                  have hany : (BL.take (j + 1)).any (fun r => eqRow x r) = (fb || eqRow x o) := by rw [← htj, List.any_append, ← hfb]; simp
                  have HANY := Lib.hid (And.intro hany hfb)
                  clear hany htj hfb hyc0
                  obtain ⟨kq, hkq⟩ := (same_row x o (by omega)).rounds
                  have hst := fun (V : World) (hV : Below wr.heap.size wr V) => hayloftref02_SameRow.calls kq Ax cx x Ay cy o _ V (Kd.C_below (Kd.C_below hxC hBj) hV) hxle (Kd.C_below hyC hV) hyle hkq
                  subst hbd
                  cases fb with
                  | true =>
                    go_wp2_with fail
                    go_roundw
                    case rel => exact ⟨j + 1, true, by go_num, by omega, rfl, by rw [HANY.out.1]; rfl, hBj⟩
                    case measure => simp [intOf]; omega
                  | false =>
                    go_wp2_with fail
                    refine (hst wr (Below.refl _ _)).mono ?_
                    rintro e w8 ⟨rfl, hd8⟩
                    have hb8' : Below wr.heap.size wr w8 := by first | exact hd8.below | exact hd8
                    have hany2 := HANY.out.1
                    rw [Bool.false_or] at hany2
                    have HANY2 := Lib.hid hany2
                    clear hany2
                    generalize eqRow x o = fe at *
                    go_wp2_with fail
                    go_roundw
                    case rel => exact ⟨j + 1, fe, by go_num, by omega, rfl, by rw [HANY2.out], btrA hBj hb8'⟩
                    case measure => simp [intOf]; omega
                · obtain rfl : j = BL.length := by omega
                  rw [List.take_length] at hfb
                  have hft : fb = true := by
                    rw [hfb]
                    exact List.any_eq_true.2 ⟨x, HMEM.out, eqRow_iff.2 rfl⟩
                  clear hfb
                  subst hft
                  go_wp2_with fail
                  go_roundw
                  case rel => exact ⟨i + 1, by go_num, by omega, hbwj⟩
                  case measure => simp [intOf]; omega
            · obtain rfl : i = R2.length := by omega
              have hB16 := btrA hB15 hB6
              obtain ⟨⟨x0, x1, x2, x3, x4, x5⟩, x6, x7, x8, x9, x10, x11⟩ := HBOX.out W6 hB16
              have hfw : Below w.heap.size w W6 := hbw6
              by_cases hb0 : byc = []
              · have hR1 := HNIL.out hb0
                have hbl : byc.length = 0 := by rw [hb0]; rfl
                have hR1z : ((R2.length : Int) == 1) = true := by rw [hR1]; rfl
                have hR1d : decide ((R2.length : Int) = 1) = true := by rw [hR1]; rfl
                have hpz2 : ¬ ((0 : Int) < (byc.length : Int)) := by omega
                have hR1e : (R2.length : Int) = 1 := by omega
                have HB0 := Lib.hid (And.intro hb0 (And.intro hR1 hbl))
                clear hb0 hR1 hbl hR1e
                go_wp2_with fail
                all_goals first
                  | (rename_i hne; exact absurd HB0.out.1 hne)
                  | (go_ret; exact ⟨rfl, hfw⟩)
              · have hpz2 : ((0 : Int) < (byc.length : Int)) := by
                  have : byc.length ≠ 0 := fun h => hb0 (List.eq_nil_of_length_eq_zero h)
                  omega
                go_wp2_with fail
                all_goals first
                  | (go_ret; exact ⟨rfl, hfw⟩)
                  | (rename_i hne; exact absurd hne hb0)
end Go.Proofs.YtgcmnomjdbofoaaDoor.QV
